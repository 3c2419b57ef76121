/- lines.Parse: the records of a file of ASCII bytes that has no line that can't be. -/
import Derived.Test.YtmdkjljcnegmeaaDoorLinesW
import Derived.WalkMore
namespace Go.Proofs.YtmdkjljcnegmeaaDoor
open Go.RowKit
set_option linter.unusedVariables false

namespace Sp
def parseGo : List Str → Option (List Rec)
  | [] => some []
  | l :: ls => if fields l = [] then parseGo ls else match record (fields l) with | none => none | some r => (parseGo ls).map (r :: ·)
def parse (t : Str) : Option (List Rec) := parseGo (Lib.split t [10])
theorem split_mem (l sep : Str) : ∀ p ∈ Lib.split l sep, p.length ≤ l.length ∧ ∀ b ∈ p, b ∈ l := by
  have h : ∀ (k : Nat) (l p : Str), p ∈ Lib.splitK sep 0 k l → p.length ≤ l.length ∧ ∀ b ∈ p, b ∈ l := by
    intro k
    induction k with
    | zero => intro l p h; simp [Lib.splitK] at h; subst h; exact ⟨Nat.le_refl _, fun _ h => h⟩
    | succ k ih =>
      intro l p h
      unfold Lib.splitK at h
      split at h
      · simp at h; subst h; exact ⟨Nat.le_refl _, fun _ h => h⟩
      · rcases List.mem_cons.1 h with rfl | h
        · exact ⟨List.length_take_le' _ _, fun b hb => List.mem_of_mem_take hb⟩
        · obtain ⟨h1, h2⟩ := ih _ p h
          refine ⟨?_, fun b hb => List.mem_of_mem_drop (h2 b hb)⟩
          simp at h1
          omega
  exact fun p hp => h _ _ p hp
theorem trim_mem (l : Str) : (trim l).length ≤ l.length ∧ ∀ b ∈ trim l, b ∈ l := by
  refine ⟨trimS_le _ _, fun b hb => ?_⟩
  unfold trim Lib.trimS Lib.trimLeftS Lib.trimRightS at hb
  have h1 := (List.dropWhile_sublist _).subset hb
  rw [List.mem_reverse] at h1
  have h2 := (List.dropWhile_sublist _).subset h1
  rwa [List.mem_reverse] at h2
theorem fields_mem (l : Str) : ∀ f ∈ fields l, f.length ≤ l.length ∧ ∀ b ∈ f, b ∈ l := by
  intro f hf
  unfold fields at hf
  split at hf
  · simp at hf
  · obtain ⟨p, hp, rfl⟩ := List.mem_map.1 hf
    have h1 := split_mem _ _ p hp
    have h2 := trim_mem p
    have h3 := trim_mem (Lib.cut l [35]).1
    have h4 := (cut_mem l [35]).1
    have h5 : (Lib.cut l [35]).1.length ≤ l.length := by unfold Lib.cut; split <;> simp; omega
    unfold line at h1
    exact ⟨by omega, fun b hb => h4 b (h3.2 b (h1.2 b (h2.2 b hb)))⟩
end Sp

theorem Sp.split_length (l : List UInt8) (c : UInt8) : (Lib.split l [c]).length ≤ l.length + 1 := by
  have h1 := Lib.splitB_data ⟨#[c]⟩ 0 (Lib.countB ⟨l.toArray⟩ ⟨#[c]⟩) ⟨l.toArray⟩
  have h2 := Lib.splitB_length_le ⟨#[c]⟩ 0 (Lib.countB ⟨l.toArray⟩ ⟨#[c]⟩) ⟨l.toArray⟩
  have h3 := Lib.countB_le ⟨#[c]⟩ (Nat.le_refl 1) _ ⟨l.toArray⟩ (Nat.le_refl _)
  have h4 := congrArg List.length h1
  rw [List.length_map] at h4
  have h5 : (Lib.split l [c]).length = (Lib.splitK [c] 0 (Lib.countB ⟨l.toArray⟩ ⟨#[c]⟩) l).length := rfl
  have h6 : (ByteArray.mk l.toArray).size = l.length := List.size_toArray
  have h7 : (Lib.splitK (ByteArray.mk #[c]).data.toList 0 (Lib.countB ⟨l.toArray⟩ ⟨#[c]⟩) (ByteArray.mk l.toArray).data.toList).length = (Lib.splitK [c] 0 (Lib.countB ⟨l.toArray⟩ ⟨#[c]⟩) l).length := rfl
  omega
theorem Sp.fields_length (l : List UInt8) : (Sp.fields l).length ≤ l.length + 1 := by
  unfold Sp.fields
  split
  · simp
  · rw [List.length_map]
    have h1 := Sp.split_length (Sp.line l) 59
    have h3 := Sp.trim_mem (Lib.cut l [35]).1
    have h5 : (Lib.cut l [35]).1.length ≤ l.length := by unfold Lib.cut; split <;> simp; omega
    unfold Sp.line at h1 ⊢
    omega
def recCells : List Rec → List Value → List Value
  | r :: rs, v :: vs => .int .i64 r.lo :: .int .i64 r.hi :: v :: recCells rs vs
  | _, _ => []
theorem recCells_snoc : ∀ (rs : List Rec) (vs : List Value) (r : Rec) (v : Value), rs.length = vs.length → recCells (rs ++ [r]) (vs ++ [v]) = recCells rs vs ++ [.int .i64 r.lo, .int .i64 r.hi, v]
  | [], [], r, v, _ => rfl
  | a :: rs, b :: vs, r, v, h => by simp [recCells, recCells_snoc rs vs r v (by simpa using h)]
  | [], _ :: _, _, _, h => by simp at h
  | _ :: _, [], _, _, h => by simp at h
theorem slRec : SlT Tryd.prog 53 58 3 40 := ⟨Tryd.underlying53, by kernel_rfl, by decide, by decide⟩
/-- v is a row of one's own that holds the records. -/
structure RecsAt (w : World) (base : Nat) (v : Value) (rs : List Rec) (fv : List Value) : Prop where
  len : rs.length = fv.length
  row : w.ownsRow base 58 3 v rs.length (recCells rs fv)
  fld : ∀ (i : Nat) r u, rs[i]? = some r → fv[i]? = some u → w.ownsRow base 9 1 u r.fields.length (strVs r.fields)
theorem RecsAt.below {w w' : World} {base : Nat} {v : Value} {rs : List Rec} {fv : List Value} (h : RecsAt w base v rs fv) (hb : Below w.heap.size w w') : RecsAt w' base v rs fv :=
  ⟨h.len, own_below h.row hb, fun i r u h1 h2 => own_below (h.fld i r u h1 h2) hb⟩
theorem RecsAt.snoc {w w' : World} {base : Nat} {v v' : Value} {rs : List Rec} {fv : List Value} (h : RecsAt w base v rs fv) {r : Rec} {u : Value} (hu : w.ownsRow base 9 1 u r.fields.length (strVs r.fields))
    (hr : w'.ownsRow base 58 3 v' (rs.length + 1) (recCells rs fv ++ [.int .i64 r.lo, .int .i64 r.hi, u])) (hg : w.grownBy w' v.ownBlock) : RecsAt w' base v' (rs ++ [r]) (fv ++ [u]) := by
  refine ⟨by simp [h.len], by rw [recCells_snoc _ _ _ _ h.len]; simpa using hr, fun i r' u' h1 h2 => ?_⟩
  have key : ∀ (u : Value) (r : Rec), w.ownsRow base 9 1 u r.fields.length (strVs r.fields) → w'.ownsRow base 9 1 u r.fields.length (strVs r.fields) := fun u r h' => h'.kept hg (own_types h' h.row (by decide))
  by_cases hi : i < rs.length
  · rw [List.getElem?_append_left hi] at h1
    rw [List.getElem?_append_left (by rw [← h.len]; exact hi)] at h2
    exact key _ _ (h.fld i r' u' h1 h2)
  · have hil : i = rs.length := by
      have := (List.getElem?_eq_some_iff.1 h1).1
      simp at this
      omega
    subst hil
    rw [List.getElem?_append_right (Nat.le_refl _)] at h1
    rw [h.len, List.getElem?_append_right (Nat.le_refl _)] at h2
    simp at h1 h2
    subst h1 h2
    exact key _ _ hu

def ParseSaid (recs : List Rec) (w : World) (e : Ending) (w' : World) : Prop :=
  ∃ v fv, e = .returned (.tuple #[v, .int .i64 0, .int .i64 0]) ∧ RecsAt w' w.heap.size v recs fv ∧ Below w.heap.size w w'
/-- Lines that are still to come, records that are. -/
def ParseLeft (ps : List ByteArray) (k : Nat) (recs rs : List Rec) : Prop := ∃ rest, Sp.parseGo ((ps.drop k).map (·.data.toList)) = some rest ∧ recs = rs ++ rest
theorem ParseLeft.skip {ps : List ByteArray} {k : Nat} {recs rs : List Rec} (h : ParseLeft ps k recs rs) (hk : k < ps.length) (hf : Sp.fields ps[k].data.toList = []) : ParseLeft ps (k + 1) recs rs := by
  obtain ⟨rest, h1, h2⟩ := h
  rw [List.drop_eq_getElem_cons hk, List.map_cons, Sp.parseGo, if_pos hf] at h1
  exact ⟨rest, h1, h2⟩
theorem ParseLeft.take {ps : List ByteArray} {k : Nat} {recs rs : List Rec} (h : ParseLeft ps k recs rs) (hk : k < ps.length) (hf : Sp.fields ps[k].data.toList ≠ []) : ∃ r, Sp.record (Sp.fields ps[k].data.toList) = some r ∧ ParseLeft ps (k + 1) recs (rs ++ [r]) := by
  obtain ⟨rest, h1, h2⟩ := h
  rw [List.drop_eq_getElem_cons hk, List.map_cons, Sp.parseGo, if_neg hf] at h1
  cases hr : Sp.record (Sp.fields ps[k].data.toList) with
  | none => rw [hr] at h1; simp at h1
  | some r =>
    rw [hr] at h1
    simp only [Option.map_eq_some_iff] at h1
    obtain ⟨rest', h3, rfl⟩ := h1
    exact ⟨r, rfl, rest', h3, by rw [h2]; simp⟩
theorem ParseLeft.done {ps : List ByteArray} {recs rs : List Rec} (h : ParseLeft ps ps.length recs rs) : recs = rs := by
  obtain ⟨rest, h1, h2⟩ := h
  rw [List.drop_of_length_le (Nat.le_refl _)] at h1
  simp [Sp.parseGo] at h1
  simp [h2, h1]
theorem ParseLeft.le {ps : List ByteArray} {k : Nat} {recs rs : List Rec} (h : ParseLeft ps k recs rs) : rs.length ≤ recs.length := by
  obtain ⟨rest, h1, h2⟩ := h
  rw [h2]; simp

set_option maxRecDepth 100000 in
theorem parse_walk (s : ByteArray) (recs : List Rec) (w : World) (hs : s.size < 1000000) (ha : ∀ b ∈ s.data.toList, b.toNat < 128) (hp : Sp.parse s.data.toList = some recs) (hE : Env w) :
    Calls Tryd.prog 26 #[.string s] w (ParseSaid recs w) := by
  have Ha := Lib.hid ha
  have Hp := Lib.hid hp
  clear ha hp
  have hnil := fun (w : World) (A : Option Addr) (n c : Nat) => Lib.run_eql_slice_nil (P := Tryd.prog) w 34 9 A n c 0 0 Tryd.underlying34
  go_enter Tryd.func26, Tryd.ntmps26
  go_wp2_with fail
  go_step3
  go_wp2_with fail
  go_step3
  go_wp2_with fail
  refine (split_one s 10 w (by omega) hE).mono ?_
  rintro e w1 ⟨ps, rfl, hps, hp1, hpn, hpl, hw1⟩
  have hown : w1.ownsRow w.heap.size 9 1 (.slice (some ⟨w.heap.size, 0, none⟩) ps.length ps.length) ps.length (ps.map Value.string) := by
    subst hw1
    have := World.ownsRow_lit (base := w.heap.size) (e := 9) (size := 1) w (ps.map Value.string).toArray ps.length (Nat.le_refl _) (by unfold maxLen; omega) (by simp)
    simpa using this
  have hb1 : Below w.heap.size w w1 := by subst hw1; exact (Below.refl _ _).alloc (Nat.le_refl _) _
  have hE1 := hE.below hb1
  have hleft : ParseLeft ps 0 recs [] := ⟨recs, by rw [List.drop_zero, hps.out]; exact Hp.out, rfl⟩
  have hascii : ∀ p ∈ ps, ∀ b ∈ p.data.toList, b.toNat < 128 := fun p hp b hb => Ha.out b ((Sp.split_mem _ _ p.data.toList (by rw [← hps.out]; exact List.mem_map_of_mem hp)).2 b hb)
  have Hascii := Lib.hid hascii
  have Hleft := Lib.hid hleft
  have hw0 : w.heap.size < w1.heap.size := by subst hw1; rw [size_new]; omega
  clear hw1 hE Hp Ha hascii hleft
  go_wp2_with fail
  have hown1 : RecsAt w1 w1.heap.size (.slice none 0 0) [] [] := ⟨rfl, World.ownsRow_nil _ _ _ _, fun i r u h => by simp at h⟩
  go_loopw [5, 14] (fun v i wr => ∃ (k : Nat) (rs : List Rec) (fv : List Value), k ≤ ps.length ∧ i = .int .i64 k ∧ RecsAt wr w1.heap.size v rs fv ∧ Hid (ParseLeft ps k recs rs) ∧ rs.length ≤ k ∧ Below w1.heap.size w1 wr) (fun _ i _ => ps.length - (intOf i).toNat)
  case atStart => exact ⟨0, [], [], by omega, rfl, hown1, Hleft, by simp, Below.refl _ _⟩
  case round =>
    obtain ⟨k, rs, fv, hk, rfl, hR, hL, hrl, hbk⟩ := hrel
    clear hown1 Hleft
    by_cases hlt : k < ps.length
    · have hc : wr.cell? ⟨w.heap.size, k, none⟩ = some (.string ps[k]) := (hbk.cell (p := ⟨_, _, _⟩) (by simpa using hw0)).trans ((hown.cellAt k (by omega)).trans (by simp [hlt]))
      have hEk := hE1.below hbk
      have hpk := hpl ps[k] (List.getElem_mem _)
      go_wp2_with fail
      refine (fields_walk ps[k] wr (by omega) hEk).mono ?_
      rintro e w2 ⟨vf, rfl, hown2, hb2, hnilv⟩
      by_cases hf : Sp.fields ps[k].data.toList = []
      · obtain rfl := hnilv hf
        have hL2 := Lib.hid (hL.out.skip hlt hf)
        have hR2 := hR.below hb2
        have hb2' := hbk.trans (hb2.mono hbk.size)
        clear hR hL hbk hb2 hc hEk hnilv hown2 hf hpk
        go_wp2_with fail
        go_roundw
        case rel => exact ⟨k + 1, rs, fv, by omega, by go_num, hR2, hL2, by omega, hb2'⟩
        case measure => simp [intOf]; omega
      · have hfl := Sp.fields_length ps[k].data.toList
        have hmem : ∀ f ∈ Sp.fields ps[k].data.toList, f.length < 4294967281 ∧ ∀ b ∈ f, b.toNat < 128 := fun f hf => by
          obtain ⟨h1, h2⟩ := Sp.fields_mem _ f hf
          rw [blen] at h1
          exact ⟨by omega, fun b hb => Hascii.out _ (List.getElem_mem _) b (h2 b hb)⟩
        have Hmem := Lib.hid hmem
        obtain ⟨r, hrec, hL2⟩ := hL.out.take hlt hf
        have HL2 := Lib.hid hL2
        have Hrec := Lib.hid hrec
        have hR2 := hR.below hb2
        have hb2' := hbk.trans (hb2.mono hbk.size)
        have hE2 := hEk.below hb2
        have hf0 : 0 < (Sp.fields ps[k].data.toList).length := List.length_pos_iff.2 hf
        have hfs : (Sp.fields ps[k].data.toList).length * 16 ≤ 140737488355328 := by
          rw [blen] at hfl
          omega
        obtain ⟨g2, c2, rfl, _, _, _, _⟩ := own_form hown2 hf0
        have hrw := record_walk _ _ _ w2 hown2 hE2 hfs Hmem.out
        have HRW := Lib.hid hrw
        clear hmem hL2 hrec hnilv hL hR hbk hb2 hc hEk hf hpk hfl hown2 hE2 hf0 hfs hrw
        generalize (Sp.fields ps[k].data.toList).length = nf at *
        go_wp2_with fail
        refine HRW.out.mono ?_
        rintro e w3 ⟨hb3, hsaid⟩
        rw [Hrec.out] at hsaid
        obtain ⟨vr, rfl, hvr⟩ := hsaid
        obtain ⟨Ar, cr, rfl⟩ := own_slice hvr
        have hR3 := hR2.below hb3
        have hb3' := hb2'.trans (hb3.mono hb2'.size)
        obtain ⟨X, hX⟩ : ∃ X, X = Obj.cells #[Value.int IntKind.i64 r.lo, Value.int IntKind.i64 r.hi, Value.slice Ar r.fields.length cr] 58 := ⟨_, rfl⟩
        have hR4 : RecsAt ((w3.alloc X).alloc X) w1.heap.size u5 rs fv := (hR3.below ((Below.refl _ _).alloc (Nat.le_refl _) X)).below ((Below.refl _ _).alloc (Nat.le_refl _) X)
        have hvr4 : ((w3.alloc X).alloc X).ownsRow w1.heap.size 9 1 (Value.slice Ar r.fields.length cr) r.fields.length (strVs r.fields) := ((own_base hvr hb2'.size).alloc X).alloc X
        have hnews : ∀ j u, [Value.int IntKind.i64 r.lo, Value.int IntKind.i64 r.hi, Value.slice Ar r.fields.length cr][j]? = some u → ((w3.alloc X).alloc X).cell? ((⟨w3.heap.size + 1, 0, none⟩ : Addr).add j) = some u := fun j u hu => by
          have h1 := row_new (w3.alloc X) X
          rw [size_new, hX] at h1
          rw [add_plain, Nat.zero_add, hX, (cells_of_row h1).1 j]
          simpa using hu
        have hb4 : Below w1.heap.size w1 ((w3.alloc X).alloc X) := (hb3'.alloc hb3'.size X).alloc (by rw [size_new]; have := hb3'.size; omega) X
        have hbytes : (rs.length + 1) * 40 ≤ 140737488355328 := by omega
        rw [hX] at hR4 hvr4 hnews hb4
        have HR4 := Lib.hid hR4
        have Hvr4 := Lib.hid hvr4
        have Hnews := Lib.hid hnews
        have Hb4 := Lib.hid hb4
        clear hX hR4 hvr4 hnews hb4 hvr hR3 hR2 hb2' hb3 hb3'
        go_wp2_with (at_builtin; refine wp_append _ slRec rfl (.tmp 32) (.tmp 34) rfl w1.heap.size u5 rs.length (recCells rs fv) rfl (by exact HR4.out.row) ⟨w3.heap.size + 1, 0, none⟩ 1 1 [.int .i64 r.lo, .int .i64 r.hi, .slice Ar r.fields.length cr] rfl rfl (by exact Hnews.out) (by simp [Value.oneCell']) hbytes (by exact Hb4.out.size) ?_; intro v5 w5 hown5 hg5 _ _; have hR5 := RecsAt.snoc HR4.out Hvr4.out hown5 hg5; have hb5 := Hb4.out.grown hg5 Hb4.out.size (fun k hk => (own_lt HR4.out.row k hk).1); clear hown5 hg5)
        go_roundw
        case rel => exact ⟨k + 1, rs ++ [r], _, by omega, by go_num, hR5, HL2, by simp; omega, hb5⟩
        case measure => simp [intOf]; omega
    · obtain rfl : k = ps.length := by omega
      have hrs := hL.out.done
      have hfin : ParseSaid recs w (.returned (.tuple #[u5, .int .i64 0, .int .i64 0])) wr := by
        subst hrs
        exact ⟨u5, fv, rfl, ⟨hR.len, own_base hR.row hb1.size, fun i r u h1 h2 => own_base (hR.fld i r u h1 h2) hb1.size⟩, hb1.trans (hbk.mono hb1.size)⟩
      clear hR hL hbk hrs hlt hk
      go_wp2_with fail
      rw [Exit.noGoto_ret]
      go_ret3
      exact hfin
end Go.Proofs.YtmdkjljcnegmeaaDoor
