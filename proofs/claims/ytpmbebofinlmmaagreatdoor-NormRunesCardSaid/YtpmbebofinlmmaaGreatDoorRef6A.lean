/- rubricatorref06: records, points. -/
import Derived.Test.YtpmbebofinlmmaaGreatDoorRef2E
namespace Go.Proofs.YtpmbebofinlmmaaGreatDoor
open Go.RowKit
set_option linter.unusedVariables false
set_option linter.unusedSimpArgs false

def intsR (l : List Nat) : List Value := l.map fun n => .int .i64 ((n : Nat) : Int)
theorem intsR_snoc (l : List Nat) (n : Nat) : intsR l ++ [.int .i64 n] = intsR (l ++ [n]) := by
  unfold intsR
  rw [List.map_append]
  rfl
theorem slIntR : SlT Tryz.prog 42 3 1 8 := ⟨Tryz.underlying42, by kernel_rfl, by decide, by decide⟩
def PtsRef (l : List Nat) (w : World) (e : Ending) (w' : World) : Prop := ∃ v, e = .returned v ∧ w'.ownsRow w.heap.size 3 1 v l.length (intsR l) ∧ Below w.heap.size w w'
/-- What is still to come of a text's code points. -/
def ptsLeft (cur : Sp.Str) (l : Sp.Str) (k : Nat) : List Nat := if k ≤ l.length then RSp.ptsGo cur (l.drop k) else []
theorem ptsLeft_more {cur l : Sp.Str} {k : Nat} (hk : k < l.length) (h : l[k] ≠ 32) : ptsLeft cur l k = ptsLeft (cur ++ [l[k]]) l (k + 1) := by
  unfold ptsLeft
  rw [if_pos (by omega), if_pos (by omega), List.drop_eq_getElem_cons hk, RSp.ptsGo, if_neg h]
theorem ptsLeft_cut {cur l : Sp.Str} {k : Nat} (hk : k < l.length) (h : l[k] = 32) : ptsLeft cur l k = (Sp.hex cur).toList ++ ptsLeft [] l (k + 1) := by
  unfold ptsLeft
  rw [if_pos (by omega), if_pos (by omega), List.drop_eq_getElem_cons hk, RSp.ptsGo, if_pos h]
theorem ptsLeft_last {cur l : Sp.Str} : ptsLeft cur l l.length = (Sp.hex cur).toList ++ ptsLeft [] l (l.length + 1) := by
  unfold ptsLeft
  rw [if_pos (Nat.le_refl _), if_neg (by omega), List.drop_length, RSp.ptsGo, List.append_nil]
theorem toB_one (x : UInt8) : (⟨#[x]⟩ : ByteArray) = ⟨([x] : Sp.Str).toArray⟩ := rfl
set_option maxRecDepth 100000 in
set_option maxHeartbeats 3200000 in
theorem points_ref (l : Sp.Str) (w : World) (hl : l.length < 1000000) : Calls Tryz.prog 72 #[.string ⟨l.toArray⟩] w (PtsRef (RSp.pts l) w) := by
  obtain ⟨S, hS⟩ : ∃ S : ByteArray, S = ⟨l.toArray⟩ := ⟨_, rfl⟩
  have hsz : (S.size : Int) = (l.length : Int) := by rw [hS, toB_size]
  rw [← hS]
  have HS := Lib.hid hS
  clear hS
  go_enter Tryz.func72, Tryz.ntmps72
  go_wp2_with fail
  go_loopw [3, 4, 5] (fun v c i wr => ∃ (k : Nat) (cur : Sp.Str) (out : List Nat), k ≤ l.length + 1 ∧ i = .int .i64 k ∧ c = .string ⟨cur.toArray⟩ ∧ cur.length ≤ k ∧ Hid (wr.ownsRow w.heap.size 3 1 v out.length (intsR out)) ∧ out.length ≤ k ∧ Hid (RSp.pts l = out ++ ptsLeft cur l k) ∧ Hid (Below w.heap.size w wr)) (fun _ _ i _ => l.length + 1 - (intOf i).toNat)
  case atStart => exact ⟨0, [], [], by omega, rfl, rfl, by simp, (by show _; exact World.ownsRow_nil _ _ _ _), by simp, rfl, Below.refl _ _⟩
  case round =>
    obtain ⟨k, cur, out, hk, rfl, rfl, hcur, HR, ho, HI, HB⟩ := hrel
    by_cases hle : k ≤ l.length
    · have d1 := decide_eq_true (show (k : Int) ≤ (l.length : Int) by omega)
      by_cases hlt : k < l.length
      · have d2 := decide_eq_true (show (k : Int) < (l.length : Int) by omega)
        have hbyte := fun w => run_byte (P := Tryz.prog) w 9 Tryz.underlying9 l k hlt
        have hg : l.getD k 0 = l[k] := by rw [List.getD_eq_getElem?_getD, List.getElem?_eq_getElem hlt]; rfl
        rw [hg, ← HS.out] at hbyte
        have hx : (⟨l.toArray⟩ : ByteArray).extract k (k + 1) = ⟨([l[k]] : Sp.Str).toArray⟩ := by
          rw [toB_ext, List.take_succ_eq_append_getElem hlt, List.drop_append_of_le_length (by rw [List.length_take]; omega), List.drop_eq_nil_of_le (by rw [List.length_take]; omega)]
          rfl
        rw [← HS.out] at hx
        have Hmore := Lib.hid (fun h : l[k] ≠ 32 => (show RSp.pts l = out ++ ptsLeft (cur ++ [l[k]]) l (k + 1) by rw [HI.out, ptsLeft_more hlt h]))
        have Hcut := Lib.hid (fun h : l[k] = 32 => (show RSp.pts l = out ++ ((Sp.hex cur).toList ++ ptsLeft [] l (k + 1)) by rw [HI.out, ptsLeft_cut hlt h]))
        clear HI hg
        generalize l[k] = x at *
        by_cases hb : x = 32
        · have Hh := Lib.hid (Hcut.out hb)
          have c1 : ((x.toNat : Int) != 32) = false := by subst hb; rfl
          clear Hmore Hcut hb hx
          go_wp2_with fail
          cases hh : Sp.hex cur with
          | none =>
            refine (hexr_none hh _).mono ?_
            rintro e w3 ⟨rfl, rfl⟩
            have Hh2 := Lib.hid (show RSp.pts l = out ++ ptsLeft [] l (k + 1) by rw [Hh.out, hh]; rfl)
            clear Hh hh
            go_wp2_with fail
            go_roundw
            case rel => exact ⟨k + 1, [], out, by omega, by go_num, rfl, by simp, HR, by omega, Hh2, HB⟩
            case measure => first | (simp [intOf]; done) | (simp [intOf]; omega)
          | some n =>
            refine (hexr_some hh _).mono ?_
            rintro e w3 ⟨rfl, rfl⟩
            have Hh2 := Lib.hid (show RSp.pts l = (out ++ [n]) ++ ptsLeft [] l (k + 1) by rw [Hh.out, hh, List.append_assoc]; rfl)
            have hbt : (out.length + 1) * 8 ≤ 140737488355328 := by omega
            clear Hh hh
            go_wp2_with (at_builtin; refine wp_append_lit slIntR rfl (.tmp 37) (.tmp 39) rfl w.heap.size _ _ _ rfl (by exact HR.out) #[.int .i64 n] rfl rfl (by simp [Value.oneCell']) (by exact hbt) (by exact HB.out.size) ?_; intro v5 w5 hown5 hg5; have HB5 := Lib.hid (HB.out.grown hg5 HB.out.size (fun k hk => (own_lt HR.out k hk).1)); have HR5 := Lib.hid hown5; clear hg5 hown5)
            go_roundw
            case rel => exact ⟨k + 1, [], out ++ [n], by omega, by go_num, rfl, by simp, (by
              show _
              rw [← intsR_snoc, List.length_append]
              exact HR5.out), by simp; omega, Hh2, HB5⟩
            case measure => first | (simp [intOf]; done) | (simp [intOf]; omega)
        · have Hh := Lib.hid (Hmore.out hb)
          have c1 : ((x.toNat : Int) != 32) = true := by
            have := ne_byte (b := x) (c := 32) hb
            show (!((x.toNat : Int) == ((32 : UInt8).toNat : Int))) = true
            rw [this]
            rfl
          have hadd : (⟨cur.toArray⟩ : ByteArray) ++ ⟨([x] : Sp.Str).toArray⟩ = ⟨(cur ++ [x]).toArray⟩ := toB_add cur [x]
          have hs1 : (⟨cur.toArray⟩ : ByteArray).size = cur.length := toB_size cur
          have hs2 : (⟨([x] : Sp.Str).toArray⟩ : ByteArray).size = 1 := rfl
          have hcl : (cur.length : Int) + 1 ≤ 9223372036854775807 := by omega
          clear Hmore Hcut hb
          generalize (⟨([x] : Sp.Str).toArray⟩ : ByteArray) = X at *
          generalize (⟨cur.toArray⟩ : ByteArray) = C at *
          go_wp2_with fail
          go_roundw
          case rel => exact ⟨k + 1, cur ++ [x], out, by omega, by go_num, by first | rfl | (congr 1), by simp; omega, HR, by omega, Hh, HB⟩
          case measure => first | (simp [intOf]; done) | (simp [intOf]; omega)
      · obtain rfl : k = l.length := by omega
        have d2 := decide_eq_false (show ¬ (l.length : Int) < (l.length : Int) by omega)
        have Hh := Lib.hid (show RSp.pts l = out ++ ((Sp.hex cur).toList ++ ptsLeft [] l (l.length + 1)) by rw [HI.out, ptsLeft_last])
        clear HI
        go_wp2_with fail
        cases hh : Sp.hex cur with
        | none =>
          refine (hexr_none hh _).mono ?_
          rintro e w3 ⟨rfl, rfl⟩
          have Hh2 := Lib.hid (show RSp.pts l = out ++ ptsLeft [] l (l.length + 1) by rw [Hh.out, hh]; rfl)
          clear Hh hh
          go_wp2_with fail
          go_roundw
          case rel => exact ⟨l.length + 1, [], out, by omega, by go_num, rfl, by simp, HR, by omega, Hh2, HB⟩
          case measure => first | (simp [intOf]; done) | (simp [intOf]; omega)
        | some n =>
          refine (hexr_some hh _).mono ?_
          rintro e w3 ⟨rfl, rfl⟩
          have Hh2 := Lib.hid (show RSp.pts l = (out ++ [n]) ++ ptsLeft [] l (l.length + 1) by rw [Hh.out, hh, List.append_assoc]; rfl)
          have hbt : (out.length + 1) * 8 ≤ 140737488355328 := by omega
          clear Hh hh
          go_wp2_with (at_builtin; refine wp_append_lit slIntR rfl (.tmp 37) (.tmp 39) rfl w.heap.size _ _ _ rfl (by exact HR.out) #[.int .i64 n] rfl rfl (by simp [Value.oneCell']) (by exact hbt) (by exact HB.out.size) ?_; intro v5 w5 hown5 hg5; have HB5 := Lib.hid (HB.out.grown hg5 HB.out.size (fun k hk => (own_lt HR.out k hk).1)); have HR5 := Lib.hid hown5; clear hg5 hown5)
          go_roundw
          case rel => exact ⟨l.length + 1, [], out ++ [n], by omega, by go_num, rfl, by simp, (by
            show _
            rw [← intsR_snoc, List.length_append]
            exact HR5.out), by simp; omega, Hh2, HB5⟩
          case measure => first | (simp [intOf]; done) | (simp [intOf]; omega)
    · obtain rfl : k = l.length + 1 := by omega
      have d1 := decide_eq_false (show ¬ (((l.length + 1 : Nat) : Int)) ≤ (l.length : Int) by omega)
      have Hh := Lib.hid (show RSp.pts l = out by
        rw [HI.out]
        unfold ptsLeft
        rw [if_neg (by omega), List.append_nil])
      clear HI
      go_wp2_with fail
      go_ret
      exact ⟨_, rfl, by rw [Hh.out]; exact HR.out, HB.out⟩
set_option maxRecDepth 100000 in
theorem records_ref (l : Sp.Str) (recs : List Rec) (w : World) (hl : l.length < 1000000) (hp : RSp.parse l = some recs) :
    Calls Tryz.prog 71 #[.string ⟨l.toArray⟩] w fun e w' => ∃ v fv, e = .returned v ∧ RecsAt w' w.heap.size v recs fv ∧ Below w.heap.size w w' := by
  have HP := Lib.hid (parse_ref l recs w hl hp)
  clear hp
  go_enter Tryz.func71, Tryz.ntmps71
  go_wp2_with fail
  refine HP.out.mono ?_
  rintro e w1 ⟨v, fv, rfl, hr, hb⟩
  have HR := Lib.hid hr
  have HB := Lib.hid hb
  clear hr hb HP
  go_wp2_with fail
  go_ret
  exact ⟨v, fv, rfl, HR.out, HB.out⟩
end Go.Proofs.YtpmbebofinlmmaaGreatDoor
