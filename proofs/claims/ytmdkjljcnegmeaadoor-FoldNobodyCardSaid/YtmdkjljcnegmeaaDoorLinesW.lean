/- lines.fields, lines.record, lines.Parse. -/
import Derived.Test.YtmdkjljcnegmeaaDoorHexW
import Derived.Test.YtmdkjljcnegmeaaDoorShelf
import Derived.Shelf.Strings.SlTrimAscii
import Derived.Deep.RegionHeld3
namespace Go.Proofs.YtmdkjljcnegmeaaDoor
open Go.RowKit
set_option linter.unusedVariables false

def strV (l : List UInt8) : Value := .string ⟨l.toArray⟩
def strVs (l : List (List UInt8)) : List Value := l.map strV
/-- What the walks ask of the world: a variable of the library's that is read. -/
def Env (w : World) : Prop := ∃ m, w.cell? ⟨3, 0, none⟩ = some (.int .i64 m)
theorem Env.below {w w' : World} (h : Env w) (hb : Below w.heap.size w w') : Env w' := by
  obtain ⟨m, h⟩ := h
  exact ⟨m, cell_later hb h⟩
theorem asciiSet_info : (Tryd.prog.info? 126).map (fun i => (i.zero, i.size)) = some (some (.agg (Array.replicate 256 (.bool false))), 256) := by kernel_rfl
theorem trimS_le (l cs : List UInt8) : (Lib.trimS l cs).length ≤ l.length := by
  unfold Lib.trimS Lib.trimLeftS Lib.trimRightS
  have h1 := (List.dropWhile_sublist (cs.contains ·) (l := (l.reverse.dropWhile (cs.contains ·)).reverse)).length_le
  have h2 := (List.dropWhile_sublist (cs.contains ·) (l := l.reverse)).length_le
  simp at h1 h2 ⊢
  omega
theorem trim_blanks (s : ByteArray) (w : World) (hs : s.size ≤ 9223372036854775807) :
    Calls Tryd.prog 64 #[.string s, .string ⟨#[32, 9]⟩] w fun e w' => ∃ t : ByteArray, e = .returned (.string t) ∧ Hid (t.data.toList = Lib.trimS s.data.toList [32, 9]) ∧ t.size ≤ s.size ∧ Below w.heap.size w w' := by
  refine (Any.strings_Trim_laid Tryd.lays160 asciiSet_info s ⟨#[32, 9]⟩ w hs (by decide) (ascii_of_all (by decide))).mono fun e w' ⟨he, hb⟩ => ?_
  refine ⟨_, he, Lib.hid rfl, ?_, hb⟩
  show (Lib.trimS s.data.toList [32, 9]).toArray.size ≤ s.data.size
  rw [List.size_toArray, ← Array.length_toList]
  exact trimS_le _ _
namespace Sp
def trim (l : Str) : Str := Lib.trimS l [32, 9]
def line (l : Str) : Str := trim (Lib.cut l [35]).1
def fields (l : Str) : List Str := if line l = [] then [] else (Lib.split (line l) [59]).map trim
end Sp
theorem splitK_le (sep : List UInt8) : ∀ (k : Nat) (l : List UInt8) (p : List UInt8), p ∈ Lib.splitK sep 0 k l → p.length ≤ l.length
  | 0, l, p, h => by simp [Lib.splitK] at h; subst h; exact Nat.le_refl _
  | k + 1, l, p, h => by
    unfold Lib.splitK at h
    split at h
    · simp at h; subst h; exact Nat.le_refl _
    · rcases List.mem_cons.1 h with rfl | h
      · exact List.length_take_le' _ _
      · have := splitK_le sep k _ p h
        simp at this
        omega
theorem split_one (s : ByteArray) (c : UInt8) (w : World) (hs : s.size < 4294967281) (hE : Env w) :
    Calls Tryd.prog 47 #[.string s, .string ⟨#[c]⟩] w fun e w' => ∃ ps : List ByteArray, e = .returned (.slice (some ⟨w.heap.size, 0, none⟩) ps.length ps.length) ∧
      Hid (ps.map (·.data.toList) = Lib.split s.data.toList [c]) ∧ 1 ≤ ps.length ∧ ps.length ≤ s.size + 1 ∧ (∀ p ∈ ps, p.size ≤ s.size) ∧ w' = w.alloc (.cells (ps.map Value.string).toArray 9) := by
  obtain ⟨m, hm⟩ := hE
  refine (Tryd.strings_Split s ⟨#[c]⟩ m w hs hm (Nat.le_refl 1)).mono fun e w' ⟨he, hw⟩ => ?_
  have hl := Lib.splitB_all ⟨#[c]⟩ (Nat.le_refl 1) 0 _ s rfl
  have hle := Lib.countB_le ⟨#[c]⟩ (Nat.le_refl 1) _ s (Nat.le_refl _)
  have hd := Lib.splitB_data ⟨#[c]⟩ 0 (Lib.countB s ⟨#[c]⟩) s
  refine ⟨Lib.splitB ⟨#[c]⟩ 0 (Lib.countB s ⟨#[c]⟩) s, by rw [hl]; exact he, hd, by omega, by omega, fun p hp => ?_, hw⟩
  have h2 : p.data.toList ∈ Lib.splitK [c] 0 (Lib.countB s ⟨#[c]⟩) s.data.toList := by rw [← hd]; exact List.mem_map_of_mem hp
  have h3 := splitK_le _ _ _ _ h2
  rwa [Array.length_toList, Array.length_toList] at h3

def FieldsSaid (s : ByteArray) (w : World) (e : Ending) (w' : World) : Prop :=
  ∃ v, e = .returned v ∧ w'.ownsRow w.heap.size 9 1 v (Sp.fields s.data.toList).length (strVs (Sp.fields s.data.toList)) ∧ Below w.heap.size w w' ∧ (Sp.fields s.data.toList = [] → v = .slice none 0 0)
/-- The loop of fields after k rounds. -/
def fieldsRow (ps : List ByteArray) (k : Nat) : List Value := (ps.take k).map (fun p => strV (Sp.trim p.data.toList)) ++ (ps.drop k).map Value.string
theorem fieldsRow_set (ps : List ByteArray) (k : Nat) (hk : k < ps.length) (t : ByteArray) (ht : t.data.toList = Lib.trimS ps[k].data.toList [32, 9]) : (fieldsRow ps k).set k (.string t) = fieldsRow ps (k + 1) := by
  unfold fieldsRow
  have hl : ((ps.take k).map (fun p => strV (Sp.trim p.data.toList))).length = k := by simp; omega
  rw [List.set_append_right _ _ (by omega), hl, Nat.sub_self, List.drop_eq_getElem_cons hk, List.map_cons, List.set_cons_zero, List.take_succ_eq_append_getElem hk, List.map_append, List.append_assoc]
  congr 1
  simp only [List.map_cons, List.map_nil, List.singleton_append]
  congr 1
  unfold strV Sp.trim
  rw [← ht]
theorem fieldsRow_get (ps : List ByteArray) (k : Nat) (hk : k < ps.length) : (fieldsRow ps k)[k]? = some (.string ps[k]) := by
  unfold fieldsRow
  have hl : ((ps.take k).map (fun p => strV (Sp.trim p.data.toList))).length = k := by simp; omega
  rw [List.getElem?_append_right (by omega), hl, Nat.sub_self, List.drop_eq_getElem_cons hk]
  rfl
theorem fieldsRow_all (ps : List ByteArray) (l : List UInt8) (h : ps.map (·.data.toList) = Lib.split l [59]) : fieldsRow ps ps.length = strVs ((Lib.split l [59]).map Sp.trim) := by
  unfold fieldsRow strVs
  rw [← h, List.take_of_length_le (Nat.le_refl _), List.drop_of_length_le (Nat.le_refl _)]
  simp

set_option maxRecDepth 100000 in
theorem fields_walk (s : ByteArray) (w : World) (hs : s.size < 4294967281) (hE : Env w) : Calls Tryd.prog 48 #[.string s] w (FieldsSaid s w) := by
  have hcut : (Lib.cut s.data.toList [35]).1.length ≤ s.size := by
    unfold Lib.cut
    split
    · simp; omega
    · simp
  obtain ⟨m, hm⟩ := hE
  go_enter Tryd.func48, Tryd.ntmps48
  go_wp2_with fail
  refine (Tryd.strings_Cut s _ m _ hs hm).mono ?_
  rintro e w' ⟨rfl, q, rfl⟩
  have hb0 : Below w.heap.size w (w.drewN q) := ⟨rfl, rfl, rfl, Nat.le_refl _, fun _ _ => rfl⟩
  go_wp2_with fail
  refine (trim_blanks _ _ ?_).mono ?_
  · show (Lib.cut s.data.toList [35]).1.toArray.size ≤ _
    rw [List.size_toArray]
    omega
  rintro e w1 ⟨t, rfl, Ht, htl, hb1⟩
  have htl' : t.size ≤ s.size := Nat.le_trans htl (by show (Lib.cut s.data.toList [35]).1.toArray.size ≤ _; rw [List.size_toArray]; exact hcut)
  have hb : Below w.heap.size w w1 := hb0.trans hb1
  have hline : Hid (Sp.line s.data.toList = t.data.toList) := Ht.out.symm
  clear Ht htl hcut hb0 hb1
  by_cases ht : t.size = 0
  · have h0 : t.data.toList = [] := by rw [← List.length_eq_zero_iff, Array.length_toList]; exact ht
    have hfin : FieldsSaid s w (.returned (.slice none 0 0)) w1 := by
      have e1 : Sp.fields s.data.toList = [] := by unfold Sp.fields; rw [if_pos (hline.out.trans h0)]
      exact ⟨_, rfl, by rw [e1]; exact World.ownsRow_nil _ _ _ _, hb, fun _ => rfl⟩
    have h1 : t.toList = [] := by rw [Lib.toList_data]; exact h0
    have h2 : t.toList.isEmpty = true := by rw [h1]; rfl
    clear h0 hline
    go_wp2_with fail
    go_ret
    exact hfin
  · have h0 : t.data.toList ≠ [] := by intro h; apply ht; show t.data.size = 0; rw [← Array.length_toList, h]; rfl
    have h2 : t.toList.isEmpty = false := by rw [Lib.toList_data]; cases h : t.data.toList with | nil => exact absurd h h0 | cons => rfl
    have hE1 : Env w1 := Env.below ⟨m, hm⟩ hb
    have hF : Hid (Sp.fields s.data.toList = (Lib.split t.data.toList [59]).map Sp.trim) := by
      show _ = _
      unfold Sp.fields
      rw [if_neg (by rw [hline.out]; exact h0), hline.out]
    clear h0 hline
    go_wp2_with fail
    refine (split_one t 59 w1 (by omega) hE1).mono ?_
    rintro e w2 ⟨ps, rfl, hps, hp1, hpn, hpl, rfl⟩
    have hown : (w1.alloc (.cells (ps.map Value.string).toArray 9)).ownsRow w.heap.size 9 1 (.slice (some ⟨w1.heap.size, 0, none⟩) ps.length ps.length) ps.length (fieldsRow ps 0) := by
      have := World.ownsRow_lit (base := w.heap.size) (e := 9) (size := 1) w1 (ps.map Value.string).toArray ps.length hb.size (by unfold maxLen; omega) (by simp)
      simpa [fieldsRow] using this
    have hb2 : Below w.heap.size w (w1.alloc (.cells (ps.map Value.string).toArray 9)) := hb.alloc hb.size _
    have hbase := hb.size
    clear hE1 hb h2
    go_wp2_with fail
    obtain ⟨W0, hW0⟩ : ∃ W0, W0 = w1.alloc (.cells (ps.map Value.string).toArray 9) := ⟨_, rfl⟩
    rw [← hW0] at hown hb2 ⊢
    clear hW0
    go_loopw [4, 19] (fun _ i wr => ∃ k : Nat, k ≤ ps.length ∧ i = .int .i64 k ∧ wr.ownsRow w.heap.size 9 1 (.slice (some ⟨w1.heap.size, 0, none⟩) ps.length ps.length) ps.length (fieldsRow ps k) ∧ Below w.heap.size w wr) (fun _ i _ => ps.length - (intOf i).toNat)
    case atStart => exact ⟨0, by omega, rfl, hown, hb2⟩
    case round =>
      obtain ⟨k, hk, rfl, hownk, hbk⟩ := hrel
      clear hown hb2
      by_cases hlt : k < ps.length
      · have hc : wr.cell? ⟨w1.heap.size, k, none⟩ = some (.string ps[k]) := (hownk.cellAt k (by omega)).trans (fieldsRow_get ps k hlt)
        have hpk := hpl ps[k] (List.getElem_mem _)
        go_wp2_with fail
        refine (trim_blanks _ _ (by omega)).mono ?_
        rintro e w3 ⟨x, rfl, hx, hxl, hb3⟩
        have hown3 := own_below hownk hb3
        have hc3 : w3.cell? ⟨w1.heap.size, k, none⟩ = some (.string ps[k]) := (hown3.cellAt k (by omega)).trans (fieldsRow_get ps k hlt)
        have hf3 : w3.frozen? ⟨w1.heap.size, k, none⟩ = false := hown3.frozenAt k
        have hbk3 := hbk.trans (hb3.mono hbk.size)
        obtain ⟨hs3, hg3⟩ := hown3.stored k (.string x)
        rw [fieldsRow_set ps k hlt x hx.out] at hs3
        have hbs : Below w.heap.size w (w3.setCell ⟨w1.heap.size, k, none⟩ (.string x)) := hbk3.setCell hbase _
        clear hown3 hg3 hownk hc hpk hbk hb3 hbk3
        go_wp2_with fail
        go_roundw
        case rel => exact ⟨k + 1, by omega, by go_num, hs3, hbs⟩
        case measure => simp [intOf]; omega
      · obtain rfl : k = ps.length := by omega
        have hfin : FieldsSaid s w (.returned (.slice (some ⟨w1.heap.size, 0, none⟩) ps.length ps.length)) wr := by
          rw [fieldsRow_all ps _ hps.out] at hownk
          have e1 : (Lib.split t.data.toList [59]).length = ps.length := by rw [← hps.out]; simp
          refine ⟨_, rfl, ?_, hbk, ?_⟩
          · rw [hF.out, List.length_map, e1]; exact hownk
          · intro e; rw [hF.out] at e
            have h0 := congrArg List.length e
            rw [List.length_map, e1, List.length_nil] at h0
            omega
        clear hownk hbk hpl hlt
        go_wp2_with fail
        go_ret
        exact hfin

structure Rec where
  lo : Nat
  hi : Nat
  fields : List Sp.Str
namespace Sp
def record (f : List Str) : Option Rec :=
  match f with
  | [] => none
  | [_] => none
  | f0 :: f1 :: rest =>
    let c := Lib.cut f0 [46, 46]
    match hex c.1, hex (if c.2.2 then c.2.1 else c.1) with
    | some a, some b => if b < a then none else some ⟨a, b, f1 :: rest⟩
    | _, _ => none
end Sp
theorem slStr : SlT Tryd.prog 34 9 1 16 := ⟨Tryd.underlying34, by kernel_rfl, by decide, by decide⟩
def RecordSaid (fs : List Sp.Str) (w : World) (e : Ending) (w' : World) : Prop := Below w.heap.size w w' ∧
  match Sp.record fs with
  | none => e = .returned (.tuple #[.agg #[.int .i64 0, .int .i64 0, .slice none 0 0], .bool false])
  | some r => ∃ v, e = .returned (.tuple #[.agg #[.int .i64 r.lo, .int .i64 r.hi, v], .bool true]) ∧ w'.ownsRow w.heap.size 9 1 v r.fields.length (strVs r.fields)

theorem cut_mem (s sep : List UInt8) : (∀ b ∈ (Lib.cut s sep).1, b ∈ s) ∧ (∀ b ∈ (Lib.cut s sep).2.1, b ∈ s) := by
  unfold Lib.cut
  split
  · exact ⟨fun b hb => List.mem_of_mem_take hb, fun b hb => List.mem_of_mem_drop hb⟩
  · exact ⟨fun b hb => hb, fun b hb => by simp at hb⟩
theorem ascii_mk (l : List UInt8) (h : ∀ b ∈ l, b.toNat < 128) : ∀ k (hk : k < (ByteArray.mk l.toArray).size), ((ByteArray.mk l.toArray)[k]'hk).toNat < 128 :=
  fun k hk => h _ (by show l.toArray[k] ∈ l; simp)
theorem hex_walk' (l : List UInt8) (w : World) (ha : ∀ b ∈ l, b.toNat < 128) :
    Calls Tryd.prog 51 #[.string ⟨l.toArray⟩] w fun e w' => e = .returned (.tuple #[.int .i64 ((Sp.hex l).getD 0 : Nat), .bool (Sp.hex l).isSome]) ∧ Below w.heap.size w w' :=
  hex_walk ⟨l.toArray⟩ w (ascii_mk l ha)
theorem hex_some {l : List UInt8} {n : Nat} (h : Sp.hex l = some n) (w : World) (ha : ∀ b ∈ l, b.toNat < 128) :
    Calls Tryd.prog 51 #[.string ⟨l.toArray⟩] w fun e w' => e = .returned (.tuple #[.int .i64 n, .bool true]) ∧ Below w.heap.size w w' := by
  have := hex_walk' l w ha
  rw [h] at this
  exact this
theorem hex_none {l : List UInt8} (h : Sp.hex l = none) (w : World) (ha : ∀ b ∈ l, b.toNat < 128) :
    Calls Tryd.prog 51 #[.string ⟨l.toArray⟩] w fun e w' => e = .returned (.tuple #[.int .i64 0, .bool false]) ∧ Below w.heap.size w w' := by
  have := hex_walk' l w ha
  rw [h] at this
  exact this
theorem hex_le {l : List UInt8} {n : Nat} (h : Sp.hex l = some n) : n ≤ 1114111 := by
  unfold Sp.hex at h
  split at h
  · simp at h
  · split at h
    · split at h
      · simp at h
      · simp at h; omega
    · simp at h

set_option maxRecDepth 100000 in
theorem record_short (a : Option Addr) (n cap : Nat) (hn : n < 2) (w : World) :
    Calls Tryd.prog 49 #[.slice a n cap] w fun e w' => e = .returned (.tuple #[.agg #[.int .i64 0, .int .i64 0, .slice none 0 0], .bool false]) ∧ Below w.heap.size w w' := by
  go_enter Tryd.func49, Tryd.ntmps49
  go_wp2_with fail
  exact bodyPost_ret (v := .tuple #[.agg #[.int .i64 0, .int .i64 0, .slice none 0 0], .bool false]) (by simp [results, Tryd.results49, go_sem]) rfl ⟨rfl, (Below.refl _ _).alloc (Nat.le_refl _) _⟩

set_option maxRecDepth 100000 in
theorem record_long_false (g n cap : Nat) (f0 : Sp.Str) (rest : List Sp.Str) (base : Nat) (w : World) (hn : Hid (n = rest.length + 1)) (hn2 : 2 ≤ n) (hsmall : n * 16 ≤ 140737488355328)
    (hown : w.ownsRow base 9 1 (.slice (some ⟨g, 0, none⟩) n cap) n (strVs (f0 :: rest))) (hE : Env w)
    (hl0 : f0.length < 4294967281) (ha : ∀ b ∈ f0, b.toNat < 128) (htwo : (Lib.cut f0 [46, 46]).2.2 = false) : Calls Tryd.prog 49 #[.slice (some ⟨g, 0, none⟩) n cap] w (RecordSaid (f0 :: rest) w) := by
  have hc0 : w.cell? ⟨g, 0, none⟩ = some (.string ⟨f0.toArray⟩) := hown.cellAt 0 (by omega)
  have hgl : g < w.heap.size := block_lt_of_cell hc0
  have hnc : n ≤ cap := by
    obtain ⟨g', cap', he, _, _, h1, h2⟩ := own_form hown (by omega)
    injection he with _ _ h3
    omega
  have hcm : cap ≤ 9223372036854775807 := by
    obtain ⟨g', cap', he, _, _, h1, h2⟩ := own_form hown (by omega)
    injection he with _ _ h3
    unfold maxLen at h2
    omega
  obtain ⟨m, hm⟩ := hE
  have hm1 : (w.alloc (Obj.cells #[Value.int IntKind.i64 0, Value.int IntKind.i64 0, Value.slice none 0 0] 58)).cell? ⟨3, 0, none⟩ = some (.int .i64 m) := cell_later ((Below.refl _ _).alloc (Nat.le_refl _) _) hm
  obtain ⟨c, hc⟩ : ∃ c, c = Lib.cut f0 [46, 46] := ⟨_, rfl⟩
  have hmem := cut_mem f0 [46, 46]
  rw [← hc] at hmem
  have hcut := Tryd.strings_Cut ⟨f0.toArray⟩ ⟨#[46, 46]⟩ m _ hl0 hm1
  have hc' : Lib.cut (ByteArray.mk f0.toArray).data.toList (ByteArray.mk #[46, 46]).data.toList = c := hc.symm
  rw [hc'] at hcut
  have Hc := Lib.hid hc
  obtain ⟨lo, hi, two⟩ := c
  obtain rfl : two = false := by rw [← Hc.out] at htwo; exact htwo
  clear htwo
  have ha1 : ∀ b ∈ lo, b.toNat < 128 := fun b hb => ha b (hmem.1 b hb)
  have ha2 : ∀ b ∈ lo, b.toNat < 128 := by
    intro b hb
    exact ha b (hmem.1 b hb)
  have HA1 := Lib.hid ha1
  have HA2 := Lib.hid ha2
  have HCut := Lib.hid hcut
  clear hc hc' hmem hcut ha1 ha2 hm1 ha hm
  go_enter Tryd.func49, Tryd.ntmps49
  go_wp2_with fail
  refine HCut.out.mono ?_
  rintro e w' ⟨rfl, q, rfl⟩
  obtain ⟨W1, hW1⟩ : ∃ W1, W1 = (w.alloc (Obj.cells #[Value.int IntKind.i64 0, Value.int IntKind.i64 0, Value.slice none 0 0] 58)).drewN q := ⟨_, rfl⟩
  have hB1 : Below w.heap.size w W1 := by subst hW1; exact ((Below.refl _ _).alloc (Nat.le_refl _) _).trans (below_drewN _ q |>.mono (by rw [size_new]; omega))
  have hrow : W1.heap[w.heap.size]? = some (Obj.cells #[Value.int IntKind.i64 0, Value.int IntKind.i64 0, Value.slice none 0 0] 58) := by subst hW1; exact row_new w _
  have hsz1 : W1.heap.size = w.heap.size + 1 := by subst hW1; exact size_new w _
  have hown1 := own_below hown hB1
  rw [← hW1]
  have hbad : Sp.record (f0 :: rest) = none → ∀ w4 : World, Below w.heap.size w w4 → RecordSaid (f0 :: rest) w (.returned (.tuple #[.agg #[.int .i64 0, .int .i64 0, .slice none 0 0], .bool false])) w4 := fun h w4 hb => by
    refine ⟨hb, ?_⟩
    rw [h]
  have Hbad := Lib.hid hbad
  clear hW1 HCut hown hc0 hbad
  cases hA : Sp.hex lo
  case none =>
    have hRec : Sp.record (f0 :: rest) = none := by
      cases rest with
      | nil => rfl
      | cons f1 rest => unfold Sp.record; simp only [← Hc.out, hA]
    have HA := Lib.hid hA
    have HRec := Lib.hid hRec
    clear hA hRec
    go_wp2_with fail
    refine (hex_none HA.out _ HA1.out).mono ?_
    rintro e w2 ⟨rfl, hb2⟩
    go_wp2_with fail
    refine (hex_walk' _ _ HA2.out).mono ?_
    rintro e w3 ⟨rfl, hb3⟩
    have hb : Below W1.heap.size W1 w3 := hb2.trans (hb3.mono hb2.size)
    have hrow3 := (hb.block w.heap.size (by omega)).trans hrow
    have r0 := (cells_of_row hrow3).1 0
    have r1 := (cells_of_row hrow3).1 1
    have r2 := (cells_of_row hrow3).1 2
    have q0 := (cells_of_row hrow3).2 0
    have q1 := (cells_of_row hrow3).2 1
    have q2 := (cells_of_row hrow3).2 2
    have hb' : Below w.heap.size w w3 := hB1.trans (hb.mono hB1.size)
    simp at r0 r1 r2
    clear hb2 hb3 hrow hrow3 hb hB1 hown1
    go_wp2_with fail
    refine bodyPost_ret (v := .tuple #[.agg #[.int .i64 0, .int .i64 0, .slice none 0 0], .bool false]) (by simp [results, Tryd.results49, go_sem, r0, r1, r2]) rfl (Hbad.out HRec.out _ ?_)
    exact ((hb'.setCell (by simp) _).setCell (by simp) _).setCell (by simp) _
  case some a =>
    have HA := Lib.hid hA
    have hale := hex_le hA
    clear hA
    go_wp2_with fail
    refine (hex_some HA.out _ HA1.out).mono ?_
    rintro e w2 ⟨rfl, hb2⟩
    cases hB : Sp.hex lo
    case none =>
      have hRec : Sp.record (f0 :: rest) = none := by
        cases rest with
        | nil => rfl
        | cons f1 rest => unfold Sp.record; simp only [← Hc.out, HA.out]; simp [hB]
      have HB := Lib.hid hB
      have HRec := Lib.hid hRec
      clear hB hRec
      go_wp2_with fail
      refine (hex_none HB.out _ HA2.out).mono ?_
      rintro e w3 ⟨rfl, hb3⟩
      have hb : Below W1.heap.size W1 w3 := hb2.trans (hb3.mono hb2.size)
      have hrow3 := (hb.block w.heap.size (by omega)).trans hrow
      have r0 := (cells_of_row hrow3).1 0
      have r1 := (cells_of_row hrow3).1 1
      have r2 := (cells_of_row hrow3).1 2
      have q0 := (cells_of_row hrow3).2 0
      have q1 := (cells_of_row hrow3).2 1
      have q2 := (cells_of_row hrow3).2 2
      have hb' : Below w.heap.size w w3 := hB1.trans (hb.mono hB1.size)
      simp at r0 r1 r2
      clear hb2 hb3 hrow hrow3 hb hB1 hown1
      go_wp2_with fail
      refine bodyPost_ret (v := .tuple #[.agg #[.int .i64 0, .int .i64 0, .slice none 0 0], .bool false]) (by simp [results, Tryd.results49, go_sem, r0, r1, r2]) rfl (Hbad.out HRec.out _ ?_)
      exact ((hb'.setCell (by simp) _).setCell (by simp) _).setCell (by simp) _
    case some b =>
      have HB := Lib.hid hB
      have hble := hex_le hB
      clear hB
      go_wp2_with fail
      refine (hex_some HB.out _ HA2.out).mono ?_
      rintro e w3 ⟨rfl, hb3⟩
      by_cases hba : b < a
      case pos =>
        have hRec : Sp.record (f0 :: rest) = none := by
          cases rest with
          | nil => rfl
          | cons f1 rest => unfold Sp.record; simp only [← Hc.out, HA.out]; simp [HB.out, hba]
        have HRec := Lib.hid hRec
        clear hRec
        have hb : Below W1.heap.size W1 w3 := hb2.trans (hb3.mono hb2.size)
        have hrow3 := (hb.block w.heap.size (by omega)).trans hrow
        have r0 := (cells_of_row hrow3).1 0
        have r1 := (cells_of_row hrow3).1 1
        have r2 := (cells_of_row hrow3).1 2
        have q0 := (cells_of_row hrow3).2 0
        have q1 := (cells_of_row hrow3).2 1
        have q2 := (cells_of_row hrow3).2 2
        have hb' : Below w.heap.size w w3 := hB1.trans (hb.mono hB1.size)
        simp at r0 r1 r2
        clear hb2 hb3 hrow hrow3 hb hB1 hown1
        go_wp2_with fail
        refine bodyPost_ret (v := .tuple #[.agg #[.int .i64 0, .int .i64 0, .slice none 0 0], .bool false]) (by simp [results, Tryd.results49, go_sem, r0, r1, r2]) rfl (Hbad.out HRec.out _ ?_)
        exact ((hb'.setCell (by simp) _).setCell (by simp) _).setCell (by simp) _
      case neg =>
        have hlt : decide (b < a) = false := by simp; omega
        have hb : Below W1.heap.size W1 w3 := hb2.trans (hb3.mono hb2.size)
        have hrow3 := (hb.block w.heap.size (by omega)).trans hrow
        have r0 := (cells_of_row hrow3).1 0
        have r1 := (cells_of_row hrow3).1 1
        have r2 := (cells_of_row hrow3).1 2
        have q0 := (cells_of_row hrow3).2 0
        have q1 := (cells_of_row hrow3).2 1
        have q2 := (cells_of_row hrow3).2 2
        have hb' : Below w.heap.size w w3 := hB1.trans (hb.mono hB1.size)
        simp at r0 r1 r2
        have hown3 := own_below hown1 hb
        have hlit : (w3.alloc (Obj.cells #[] 9)).ownsRow w3.heap.size 9 1 (.slice (some ⟨w3.heap.size, 0, none⟩) 0 0) 0 [] := World.ownsRow_lit (size := 1) w3 #[] 0 (Nat.le_refl _) (by decide) rfl
        have hnews : ∀ j u, (strVs rest)[j]? = some u → (w3.alloc (Obj.cells #[] 9)).cell? ((⟨g, 1, none⟩ : Addr).add j) = some u := fun j u hu => by
          rw [add_plain]; exact own_cell (hown3.alloc (Obj.cells #[] 9)) (1 + j) u (by rw [Nat.add_comm]; exact hu)
        have hlen : (strVs rest).length = (n - 1) * 1 := by have := hn.out; unfold strVs; rw [List.length_map]; omega
        have hone : ∀ u ∈ strVs rest, u.oneCell' = true := fun u hu => by obtain ⟨x, _, rfl⟩ := List.mem_map.1 hu; rfl
        have hgood : ∀ v w4, w4.ownsRow w.heap.size 9 1 v (0 + (n - 1)) ([] ++ strVs rest) → Below w.heap.size w w4 → RecordSaid (f0 :: rest) w (.returned (.tuple #[.agg #[.int .i64 a, .int .i64 b, v], .bool true])) w4 := fun v w4 h1 h2 => by
          refine ⟨h2, ?_⟩
          have hRec : Sp.record (f0 :: rest) = some ⟨a, b, rest⟩ := by
            cases rest with
            | nil => have := hn.out; simp at this; omega
            | cons f1 rest => unfold Sp.record; simp only [← Hc.out, HA.out]; simp [HB.out, hba]
          rw [hRec]
          refine ⟨v, rfl, ?_⟩
          have e : 0 + (n - 1) = rest.length := by have := hn.out; omega
          rw [e] at h1
          exact h1
        have hzb : Below w.heap.size w (w3.alloc (Obj.cells #[] 9)) := hb'.alloc hb'.size _
        have Hlit := Lib.hid hlit
        have Hnews := Lib.hid hnews
        have Hlen := Lib.hid hlen
        have Hone := Lib.hid hone
        have Hgood := Lib.hid hgood
        have hcapb : (0 + (n - 1)) * 16 ≤ 140737488355328 := by have := hsmall; omega
        have hne3 : w.heap.size < w3.heap.size := by have := hb.size; omega
        have hrowz := alloc_row hrow3 (Obj.cells #[] 9)
        have Hrowz := Lib.hid hrowz
        clear hb2 hb3 hrow hrow3 hrowz hb hB1 hown1 hba Hbad hlit hnews hlen hone hgood hb' r0 r1 r2 q0 q1 q2
        go_wp2_with (at_builtin; refine wp_append _ slStr rfl (.tmp 50) (.tmp 52) rfl w3.heap.size (.slice (some ⟨w3.heap.size, 0, none⟩) 0 0) 0 [] rfl (by exact Hlit.out) ⟨g, 1, none⟩ (n - 1) (cap - 1) (strVs rest) rfl Hlen.out (by exact Hnews.out) Hone.out hcapb (by rw [size_new]; omega) ?_; intro v4 w4 hown4 hg4 _ hat4; have hrow4 := grown_row hg4 Hrowz.out (by simp [Value.ownBlock]; omega); have hb4 : Below w.heap.size w w4 := hzb.grown hg4 hzb.size (by intro k hk; simp [Value.ownBlock] at hk; omega); have r0 := (cells_of_row hrow4).1 0; have r1 := (cells_of_row hrow4).1 1; have r2 := (cells_of_row hrow4).1 2; have q0 := (cells_of_row hrow4).2 0; have q1 := (cells_of_row hrow4).2 1; have q2 := (cells_of_row hrow4).2 2; simp at r0 r1 r2; clear hg4 hat4 hrow4; obtain ⟨A4, c4, rfl⟩ := own_slice hown4)
        refine bodyPost_ret (v := .tuple #[.agg #[.int .i64 a, .int .i64 b, .slice A4 (0 + (n - 1)) c4], .bool true]) (by simp [results, Tryd.results49, go_sem, r0, r1, r2]) rfl (Hgood.out _ _ ?_ ?_)
        · exact own_base (ownsRow_setCell_below (ownsRow_setCell_below (ownsRow_setCell_below hown4 hne3 _) hne3 _) hne3 _) (by omega)
        · exact ((hb4.setCell (by simp) _).setCell (by simp) _).setCell (by simp) _

set_option maxRecDepth 100000 in
theorem record_long_true (g n cap : Nat) (f0 : Sp.Str) (rest : List Sp.Str) (base : Nat) (w : World) (hn : Hid (n = rest.length + 1)) (hn2 : 2 ≤ n) (hsmall : n * 16 ≤ 140737488355328)
    (hown : w.ownsRow base 9 1 (.slice (some ⟨g, 0, none⟩) n cap) n (strVs (f0 :: rest))) (hE : Env w)
    (hl0 : f0.length < 4294967281) (ha : ∀ b ∈ f0, b.toNat < 128) (htwo : (Lib.cut f0 [46, 46]).2.2 = true) : Calls Tryd.prog 49 #[.slice (some ⟨g, 0, none⟩) n cap] w (RecordSaid (f0 :: rest) w) := by
  have hc0 : w.cell? ⟨g, 0, none⟩ = some (.string ⟨f0.toArray⟩) := hown.cellAt 0 (by omega)
  have hgl : g < w.heap.size := block_lt_of_cell hc0
  have hnc : n ≤ cap := by
    obtain ⟨g', cap', he, _, _, h1, h2⟩ := own_form hown (by omega)
    injection he with _ _ h3
    omega
  have hcm : cap ≤ 9223372036854775807 := by
    obtain ⟨g', cap', he, _, _, h1, h2⟩ := own_form hown (by omega)
    injection he with _ _ h3
    unfold maxLen at h2
    omega
  obtain ⟨m, hm⟩ := hE
  have hm1 : (w.alloc (Obj.cells #[Value.int IntKind.i64 0, Value.int IntKind.i64 0, Value.slice none 0 0] 58)).cell? ⟨3, 0, none⟩ = some (.int .i64 m) := cell_later ((Below.refl _ _).alloc (Nat.le_refl _) _) hm
  obtain ⟨c, hc⟩ : ∃ c, c = Lib.cut f0 [46, 46] := ⟨_, rfl⟩
  have hmem := cut_mem f0 [46, 46]
  rw [← hc] at hmem
  have hcut := Tryd.strings_Cut ⟨f0.toArray⟩ ⟨#[46, 46]⟩ m _ hl0 hm1
  have hc' : Lib.cut (ByteArray.mk f0.toArray).data.toList (ByteArray.mk #[46, 46]).data.toList = c := hc.symm
  rw [hc'] at hcut
  have Hc := Lib.hid hc
  obtain ⟨lo, hi, two⟩ := c
  obtain rfl : two = true := by rw [← Hc.out] at htwo; exact htwo
  clear htwo
  have ha1 : ∀ b ∈ lo, b.toNat < 128 := fun b hb => ha b (hmem.1 b hb)
  have ha2 : ∀ b ∈ hi, b.toNat < 128 := by
    intro b hb
    exact ha b (hmem.2 b hb)
  have HA1 := Lib.hid ha1
  have HA2 := Lib.hid ha2
  have HCut := Lib.hid hcut
  clear hc hc' hmem hcut ha1 ha2 hm1 ha hm
  go_enter Tryd.func49, Tryd.ntmps49
  go_wp2_with fail
  refine HCut.out.mono ?_
  rintro e w' ⟨rfl, q, rfl⟩
  obtain ⟨W1, hW1⟩ : ∃ W1, W1 = (w.alloc (Obj.cells #[Value.int IntKind.i64 0, Value.int IntKind.i64 0, Value.slice none 0 0] 58)).drewN q := ⟨_, rfl⟩
  have hB1 : Below w.heap.size w W1 := by subst hW1; exact ((Below.refl _ _).alloc (Nat.le_refl _) _).trans (below_drewN _ q |>.mono (by rw [size_new]; omega))
  have hrow : W1.heap[w.heap.size]? = some (Obj.cells #[Value.int IntKind.i64 0, Value.int IntKind.i64 0, Value.slice none 0 0] 58) := by subst hW1; exact row_new w _
  have hsz1 : W1.heap.size = w.heap.size + 1 := by subst hW1; exact size_new w _
  have hown1 := own_below hown hB1
  rw [← hW1]
  have hbad : Sp.record (f0 :: rest) = none → ∀ w4 : World, Below w.heap.size w w4 → RecordSaid (f0 :: rest) w (.returned (.tuple #[.agg #[.int .i64 0, .int .i64 0, .slice none 0 0], .bool false])) w4 := fun h w4 hb => by
    refine ⟨hb, ?_⟩
    rw [h]
  have Hbad := Lib.hid hbad
  clear hW1 HCut hown hc0 hbad
  cases hA : Sp.hex lo
  case none =>
    have hRec : Sp.record (f0 :: rest) = none := by
      cases rest with
      | nil => rfl
      | cons f1 rest => unfold Sp.record; simp only [← Hc.out, hA]
    have HA := Lib.hid hA
    have HRec := Lib.hid hRec
    clear hA hRec
    go_wp2_with fail
    refine (hex_none HA.out _ HA1.out).mono ?_
    rintro e w2 ⟨rfl, hb2⟩
    go_wp2_with fail
    refine (hex_walk' _ _ HA2.out).mono ?_
    rintro e w3 ⟨rfl, hb3⟩
    have hb : Below W1.heap.size W1 w3 := hb2.trans (hb3.mono hb2.size)
    have hrow3 := (hb.block w.heap.size (by omega)).trans hrow
    have r0 := (cells_of_row hrow3).1 0
    have r1 := (cells_of_row hrow3).1 1
    have r2 := (cells_of_row hrow3).1 2
    have q0 := (cells_of_row hrow3).2 0
    have q1 := (cells_of_row hrow3).2 1
    have q2 := (cells_of_row hrow3).2 2
    have hb' : Below w.heap.size w w3 := hB1.trans (hb.mono hB1.size)
    simp at r0 r1 r2
    clear hb2 hb3 hrow hrow3 hb hB1 hown1
    go_wp2_with fail
    refine bodyPost_ret (v := .tuple #[.agg #[.int .i64 0, .int .i64 0, .slice none 0 0], .bool false]) (by simp [results, Tryd.results49, go_sem, r0, r1, r2]) rfl (Hbad.out HRec.out _ ?_)
    exact ((hb'.setCell (by simp) _).setCell (by simp) _).setCell (by simp) _
  case some a =>
    have HA := Lib.hid hA
    have hale := hex_le hA
    clear hA
    go_wp2_with fail
    refine (hex_some HA.out _ HA1.out).mono ?_
    rintro e w2 ⟨rfl, hb2⟩
    cases hB : Sp.hex hi
    case none =>
      have hRec : Sp.record (f0 :: rest) = none := by
        cases rest with
        | nil => rfl
        | cons f1 rest => unfold Sp.record; simp only [← Hc.out, HA.out]; simp [hB]
      have HB := Lib.hid hB
      have HRec := Lib.hid hRec
      clear hB hRec
      go_wp2_with fail
      refine (hex_none HB.out _ HA2.out).mono ?_
      rintro e w3 ⟨rfl, hb3⟩
      have hb : Below W1.heap.size W1 w3 := hb2.trans (hb3.mono hb2.size)
      have hrow3 := (hb.block w.heap.size (by omega)).trans hrow
      have r0 := (cells_of_row hrow3).1 0
      have r1 := (cells_of_row hrow3).1 1
      have r2 := (cells_of_row hrow3).1 2
      have q0 := (cells_of_row hrow3).2 0
      have q1 := (cells_of_row hrow3).2 1
      have q2 := (cells_of_row hrow3).2 2
      have hb' : Below w.heap.size w w3 := hB1.trans (hb.mono hB1.size)
      simp at r0 r1 r2
      clear hb2 hb3 hrow hrow3 hb hB1 hown1
      go_wp2_with fail
      refine bodyPost_ret (v := .tuple #[.agg #[.int .i64 0, .int .i64 0, .slice none 0 0], .bool false]) (by simp [results, Tryd.results49, go_sem, r0, r1, r2]) rfl (Hbad.out HRec.out _ ?_)
      exact ((hb'.setCell (by simp) _).setCell (by simp) _).setCell (by simp) _
    case some b =>
      have HB := Lib.hid hB
      have hble := hex_le hB
      clear hB
      go_wp2_with fail
      refine (hex_some HB.out _ HA2.out).mono ?_
      rintro e w3 ⟨rfl, hb3⟩
      by_cases hba : b < a
      case pos =>
        have hRec : Sp.record (f0 :: rest) = none := by
          cases rest with
          | nil => rfl
          | cons f1 rest => unfold Sp.record; simp only [← Hc.out, HA.out]; simp [HB.out, hba]
        have HRec := Lib.hid hRec
        clear hRec
        have hb : Below W1.heap.size W1 w3 := hb2.trans (hb3.mono hb2.size)
        have hrow3 := (hb.block w.heap.size (by omega)).trans hrow
        have r0 := (cells_of_row hrow3).1 0
        have r1 := (cells_of_row hrow3).1 1
        have r2 := (cells_of_row hrow3).1 2
        have q0 := (cells_of_row hrow3).2 0
        have q1 := (cells_of_row hrow3).2 1
        have q2 := (cells_of_row hrow3).2 2
        have hb' : Below w.heap.size w w3 := hB1.trans (hb.mono hB1.size)
        simp at r0 r1 r2
        clear hb2 hb3 hrow hrow3 hb hB1 hown1
        go_wp2_with fail
        refine bodyPost_ret (v := .tuple #[.agg #[.int .i64 0, .int .i64 0, .slice none 0 0], .bool false]) (by simp [results, Tryd.results49, go_sem, r0, r1, r2]) rfl (Hbad.out HRec.out _ ?_)
        exact ((hb'.setCell (by simp) _).setCell (by simp) _).setCell (by simp) _
      case neg =>
        have hlt : decide (b < a) = false := by simp; omega
        have hb : Below W1.heap.size W1 w3 := hb2.trans (hb3.mono hb2.size)
        have hrow3 := (hb.block w.heap.size (by omega)).trans hrow
        have r0 := (cells_of_row hrow3).1 0
        have r1 := (cells_of_row hrow3).1 1
        have r2 := (cells_of_row hrow3).1 2
        have q0 := (cells_of_row hrow3).2 0
        have q1 := (cells_of_row hrow3).2 1
        have q2 := (cells_of_row hrow3).2 2
        have hb' : Below w.heap.size w w3 := hB1.trans (hb.mono hB1.size)
        simp at r0 r1 r2
        have hown3 := own_below hown1 hb
        have hlit : (w3.alloc (Obj.cells #[] 9)).ownsRow w3.heap.size 9 1 (.slice (some ⟨w3.heap.size, 0, none⟩) 0 0) 0 [] := World.ownsRow_lit (size := 1) w3 #[] 0 (Nat.le_refl _) (by decide) rfl
        have hnews : ∀ j u, (strVs rest)[j]? = some u → (w3.alloc (Obj.cells #[] 9)).cell? ((⟨g, 1, none⟩ : Addr).add j) = some u := fun j u hu => by
          rw [add_plain]; exact own_cell (hown3.alloc (Obj.cells #[] 9)) (1 + j) u (by rw [Nat.add_comm]; exact hu)
        have hlen : (strVs rest).length = (n - 1) * 1 := by have := hn.out; unfold strVs; rw [List.length_map]; omega
        have hone : ∀ u ∈ strVs rest, u.oneCell' = true := fun u hu => by obtain ⟨x, _, rfl⟩ := List.mem_map.1 hu; rfl
        have hgood : ∀ v w4, w4.ownsRow w.heap.size 9 1 v (0 + (n - 1)) ([] ++ strVs rest) → Below w.heap.size w w4 → RecordSaid (f0 :: rest) w (.returned (.tuple #[.agg #[.int .i64 a, .int .i64 b, v], .bool true])) w4 := fun v w4 h1 h2 => by
          refine ⟨h2, ?_⟩
          have hRec : Sp.record (f0 :: rest) = some ⟨a, b, rest⟩ := by
            cases rest with
            | nil => have := hn.out; simp at this; omega
            | cons f1 rest => unfold Sp.record; simp only [← Hc.out, HA.out]; simp [HB.out, hba]
          rw [hRec]
          refine ⟨v, rfl, ?_⟩
          have e : 0 + (n - 1) = rest.length := by have := hn.out; omega
          rw [e] at h1
          exact h1
        have hzb : Below w.heap.size w (w3.alloc (Obj.cells #[] 9)) := hb'.alloc hb'.size _
        have Hlit := Lib.hid hlit
        have Hnews := Lib.hid hnews
        have Hlen := Lib.hid hlen
        have Hone := Lib.hid hone
        have Hgood := Lib.hid hgood
        have hcapb : (0 + (n - 1)) * 16 ≤ 140737488355328 := by have := hsmall; omega
        have hne3 : w.heap.size < w3.heap.size := by have := hb.size; omega
        have hrowz := alloc_row hrow3 (Obj.cells #[] 9)
        have Hrowz := Lib.hid hrowz
        clear hb2 hb3 hrow hrow3 hrowz hb hB1 hown1 hba Hbad hlit hnews hlen hone hgood hb' r0 r1 r2 q0 q1 q2
        go_wp2_with (at_builtin; refine wp_append _ slStr rfl (.tmp 50) (.tmp 52) rfl w3.heap.size (.slice (some ⟨w3.heap.size, 0, none⟩) 0 0) 0 [] rfl (by exact Hlit.out) ⟨g, 1, none⟩ (n - 1) (cap - 1) (strVs rest) rfl Hlen.out (by exact Hnews.out) Hone.out hcapb (by rw [size_new]; omega) ?_; intro v4 w4 hown4 hg4 _ hat4; have hrow4 := grown_row hg4 Hrowz.out (by simp [Value.ownBlock]; omega); have hb4 : Below w.heap.size w w4 := hzb.grown hg4 hzb.size (by intro k hk; simp [Value.ownBlock] at hk; omega); have r0 := (cells_of_row hrow4).1 0; have r1 := (cells_of_row hrow4).1 1; have r2 := (cells_of_row hrow4).1 2; have q0 := (cells_of_row hrow4).2 0; have q1 := (cells_of_row hrow4).2 1; have q2 := (cells_of_row hrow4).2 2; simp at r0 r1 r2; clear hg4 hat4 hrow4; obtain ⟨A4, c4, rfl⟩ := own_slice hown4)
        refine bodyPost_ret (v := .tuple #[.agg #[.int .i64 a, .int .i64 b, .slice A4 (0 + (n - 1)) c4], .bool true]) (by simp [results, Tryd.results49, go_sem, r0, r1, r2]) rfl (Hgood.out _ _ ?_ ?_)
        · exact own_base (ownsRow_setCell_below (ownsRow_setCell_below (ownsRow_setCell_below hown4 hne3 _) hne3 _) hne3 _) (by omega)
        · exact ((hb4.setCell (by simp) _).setCell (by simp) _).setCell (by simp) _

theorem record_walk (v : Value) (fs : List Sp.Str) (base : Nat) (w : World) (hown : w.ownsRow base 9 1 v fs.length (strVs fs)) (hE : Env w) (hsmall : fs.length * 16 ≤ 140737488355328)
    (ha : ∀ f ∈ fs, f.length < 4294967281 ∧ ∀ b ∈ f, b.toNat < 128) : Calls Tryd.prog 49 #[v] w (RecordSaid fs w) := by
  match fs, hown, hsmall, ha with
  | [], hown, _, ha =>
    obtain ⟨A, c, rfl⟩ := own_slice hown
    exact (record_short A _ c (by simp) w).mono fun e w' ⟨h1, h2⟩ => ⟨h2, h1⟩
  | [f0], hown, _, ha =>
    obtain ⟨A, c, rfl⟩ := own_slice hown
    exact (record_short A _ c (by simp) w).mono fun e w' ⟨h1, h2⟩ => ⟨h2, h1⟩
  | f0 :: f1 :: rest, hown, hsmall, ha =>
    obtain ⟨g, cap, rfl, hbg, hgl, hnc, hcm⟩ := own_form hown (by simp)
    obtain ⟨h1, h2⟩ := ha f0 (by simp)
    cases htwo : (Lib.cut f0 [46, 46]).2.2
    · exact record_long_false g _ cap f0 (f1 :: rest) base w (Lib.hid rfl) (by simp) hsmall hown hE h1 h2 htwo
    · exact record_long_true g _ cap f0 (f1 :: rest) base w (Lib.hid rfl) (by simp) hsmall hown hE h1 h2 htwo
end Go.Proofs.YtmdkjljcnegmeaaDoor
