/- Ref2A, Ref2B, Ref2C, Ref2D, Ref2E, Ref6A: in one text. -/
import Derived.Test.YtchkckfadennhaaGreatDoorRefP
import Derived.Deep.DeepCutAuto
import Derived.Deep.CutBlock
namespace Go.Proofs.YtchkckfadennhaaGreatDoor
open Go.RowKit
set_option linter.unusedVariables false
set_option linter.unusedSimpArgs false

def strLen : Value → Nat
  | .string s => s.size
  | _ => 0
theorem ne_byte {b c : UInt8} (h : b ≠ c) : ((b.toNat : Int) == (c.toNat : Int)) = false := by
  rw [beq_eq_false_iff_ne]
  intro e
  exact h (UInt8.toNat_inj.1 (by omega))
set_option maxRecDepth 100000 in
set_option maxHeartbeats 1600000 in
theorem trim_ref (l : Sp.Str) (w : World) (hl : l.length ≤ 4294967296) : Calls Tryz.prog 124 #[.string ⟨l.toArray⟩] w fun e w' => e = .returned (.string ⟨(RSp.trim l).toArray⟩) ∧ w' = w := by
  go_enter Tryz.func124, Tryz.ntmps124
  go_wp2_with fail
  go_loopw [0] (fun v wr => ∃ t : Sp.Str, v = .string ⟨t.toArray⟩ ∧ t.length ≤ l.length ∧ Hid (RSp.trim l = RSp.trimR (RSp.trimL t)) ∧ w = wr) (fun v _ => strLen v)
  case atStart => exact ⟨l, rfl, Nat.le_refl _, rfl, rfl⟩
  case round =>
    obtain ⟨t, rfl, ht, HI, rfl⟩ := hrel
    cases t with
    | nil =>
      have HI1 := Lib.hid (show RSp.trim l = RSp.trimR [] from HI.out)
      clear HI
      go_wp2_with fail
      go_loopw [0] (fun v wr => ∃ t : Sp.Str, v = .string ⟨t.toArray⟩ ∧ t.length ≤ l.length ∧ Hid (RSp.trim l = RSp.trimR t) ∧ w = wr) (fun v _ => strLen v)
      case atStart => exact ⟨_, rfl, Nat.zero_le _, HI1, rfl⟩
      case round =>
        obtain ⟨t2, rfl, ht2, HI2, rfl⟩ := hrel
        rcases List.eq_nil_or_concat t2 with rfl | ⟨t3, b3, h3⟩
        · have Hfin := Lib.hid (show RSp.trim l = [] from HI2.out)
          clear HI2
          go_wp2_with fail
          go_ret
          exact ⟨by rw [Hfin.out]; first | done | rfl, rfl⟩
        · rw [List.concat_eq_append] at h3
          subst h3
          have hsz2 : (⟨(t3 ++ [b3]).toArray⟩ : ByteArray).size = t3.length + 1 := by rw [toB_size]; simp
          have hg2 : (t3 ++ [b3]).getD t3.length 0 = b3 := by simp
          have hbyte2 := fun w => run_byte (P := Tryz.prog) w 9 Tryz.underlying9 (t3 ++ [b3]) t3.length (by simp)
          have hx2 : (⟨(t3 ++ [b3]).toArray⟩ : ByteArray).extract 0 t3.length = ⟨t3.toArray⟩ := by rw [toB_ext]; simp
          rw [hg2] at hbyte2
          have ht3 : t3.length < l.length := by simp at ht2; omega
          have a1 : wrap64 ((t3.length : Int) + 1 - 1) = (t3.length : Int) := by unfold wrap64; omega
          have a3 : IntKind.i64.wrap ((t3.length : Int) + 1 - 1) = (t3.length : Int) := by rw [IntKind.wrap_i64]; omega
          have a2 : ((t3.length : Int) + 1 - 1) = (t3.length : Int) := by omega
          have d0 : decide ((t3.length : Int) + 1 > 0) = true := by rw [decide_eq_true_eq]; omega
          have hl2 := Lib.hid (show strLen (.string ⟨t3.toArray⟩) < strLen (.string ⟨(t3 ++ [b3]).toArray⟩) by show (⟨t3.toArray⟩ : ByteArray).size < (⟨(t3 ++ [b3]).toArray⟩ : ByteArray).size; rw [toB_size, toB_size]; simp)
          have Hmore := Lib.hid (fun hb : RSp.ws b3 = true => (show RSp.trim l = RSp.trimR t3 by rw [HI2.out, RSp.trimR_more hb]))
          have Hend := Lib.hid (fun hb : RSp.ws b3 = false => (show RSp.trim l = t3 ++ [b3] by rw [HI2.out, RSp.trimR_end hb]))
          clear HI2 hg2 ht2
          obtain ⟨T2, hT2⟩ : ∃ T : ByteArray, T = ⟨(t3 ++ [b3]).toArray⟩ := ⟨_, rfl⟩
          rw [← hT2] at hsz2 hbyte2 hx2 hl2 ⊢
          replace hT2 := Lib.hid hT2
          have hsz3 : (T2.size : Int) = (t3.length : Int) + 1 := by rw [hsz2]; rfl
          clear hsz2
          by_cases c1 : b3 = 32
          · have Hm := Lib.hid (Hmore.out (by subst c1; rfl))
            have c2 : ((b3.toNat : Int) == 32) = true := by subst c1; rfl
            clear Hmore Hend c1
            go_wp2_with fail
            go_roundw
            case rel => exact ⟨t3, rfl, by omega, Hm, by first | rfl | trivial⟩
            case measure => exact hl2.out
          · have c2 : ((b3.toNat : Int) == 32) = false := ne_byte c1
            by_cases c3 : b3 = 9
            · have Hm := Lib.hid (Hmore.out (by subst c3; rfl))
              have c4 : ((b3.toNat : Int) == 9) = true := by subst c3; rfl
              clear Hmore Hend c1 c3
              go_wp2_with fail
              go_roundw
              case rel => exact ⟨t3, rfl, by omega, Hm, by first | rfl | trivial⟩
              case measure => exact hl2.out
            · have c4 : ((b3.toNat : Int) == 9) = false := ne_byte c3
              have Hm := Lib.hid (Hend.out (by unfold RSp.ws; rw [beq_eq_false_iff_ne.2 c1, beq_eq_false_iff_ne.2 c3]; rfl))
              clear Hmore Hend c1 c3
              go_wp2_with fail
              go_ret
              exact ⟨by rw [Hm.out, hT2.out]; rfl, rfl⟩
    | cons b t1 =>
      have hsz : (⟨(b :: t1).toArray⟩ : ByteArray).size = t1.length + 1 := by rw [toB_size]; simp
      have hbyte : ∀ w, (Instr.index 9 (.string ⟨(b :: t1).toArray⟩) (.int .i64 0)).run Tryz.prog w = .ok (.int .u8 (((b :: t1).getD 0 0).toNat : Int)) w := fun w => run_byte (P := Tryz.prog) w 9 Tryz.underlying9 (b :: t1) 0 (by simp)
      have hx : (⟨(b :: t1).toArray⟩ : ByteArray).extract 1 (⟨(b :: t1).toArray⟩ : ByteArray).size = ⟨t1.toArray⟩ := by rw [toB_ext, toB_size, List.take_length]; rfl
      have hg : (b :: t1).getD 0 0 = b := rfl
      rw [hg] at hbyte
      have htl : t1.length < l.length := by simp at ht; omega
      have d0 : decide ((t1.length : Int) + 1 > 0) = true := by rw [decide_eq_true_eq]; omega
      have hlt := Lib.hid (show strLen (.string ⟨t1.toArray⟩) < strLen (.string ⟨(b :: t1).toArray⟩) by show (⟨t1.toArray⟩ : ByteArray).size < (⟨(b :: t1).toArray⟩ : ByteArray).size; rw [toB_size, toB_size]; simp)
      have Hmore := Lib.hid (fun hb : RSp.ws b = true => (show RSp.trim l = RSp.trimR (RSp.trimL t1) by rw [HI.out, RSp.trimL_more hb]))
      have Hend := Lib.hid (fun hb : RSp.ws b = false => (show RSp.trim l = RSp.trimR (b :: t1) by rw [HI.out, RSp.trimL_end hb]))
      clear HI hg
      obtain ⟨T, hT⟩ : ∃ T : ByteArray, T = ⟨(b :: t1).toArray⟩ := ⟨_, rfl⟩
      rw [← hT] at hsz hbyte hx hlt ⊢
      replace hT := Lib.hid hT
      have hszi : (T.size : Int) = (t1.length : Int) + 1 := by rw [hsz]; rfl
      clear hsz
      by_cases c1 : b = 32
      · have Hm := Lib.hid (Hmore.out (by subst c1; rfl))
        have c2 : ((b.toNat : Int) == 32) = true := by subst c1; rfl
        clear Hmore Hend c1 ht
        go_wp2_with fail
        go_roundw
        case rel => exact ⟨t1, rfl, by omega, Hm, by first | rfl | trivial⟩
        case measure => exact hlt.out
      · have c2 : ((b.toNat : Int) == 32) = false := ne_byte c1
        by_cases c3 : b = 9
        · have Hm := Lib.hid (Hmore.out (by subst c3; rfl))
          have c4 : ((b.toNat : Int) == 9) = true := by subst c3; rfl
          clear Hmore Hend c1 c3 ht
          go_wp2_with fail
          go_roundw
          case rel => exact ⟨t1, rfl, by omega, Hm, by first | rfl | trivial⟩
          case measure => exact hlt.out
        · have c4 : ((b.toNat : Int) == 9) = false := ne_byte c3
          have HI1 := Lib.hid (Hend.out (by unfold RSp.ws; rw [beq_eq_false_iff_ne.2 c1, beq_eq_false_iff_ne.2 c3]; rfl))
          clear Hmore Hend c1 c3 hlt
          go_wp2_with fail
          clear hbyte hx d0
          rw [hT.out]
          clear hT hszi
          go_loopw [0] (fun v wr => ∃ t : Sp.Str, v = .string ⟨t.toArray⟩ ∧ t.length ≤ l.length ∧ Hid (RSp.trim l = RSp.trimR t) ∧ w = wr) (fun v _ => strLen v)
          case atStart => exact ⟨_, rfl, ht, HI1, rfl⟩
          case round =>
            obtain ⟨t2, rfl, ht2, HI2, rfl⟩ := hrel
            rcases List.eq_nil_or_concat t2 with rfl | ⟨t3, b3, h3⟩
            · have Hfin := Lib.hid (show RSp.trim l = [] from HI2.out)
              clear HI2
              go_wp2_with fail
              go_ret
              exact ⟨by rw [Hfin.out]; first | done | rfl, rfl⟩
            · rw [List.concat_eq_append] at h3
              subst h3
              have hsz2 : (⟨(t3 ++ [b3]).toArray⟩ : ByteArray).size = t3.length + 1 := by rw [toB_size]; simp
              have hg2 : (t3 ++ [b3]).getD t3.length 0 = b3 := by simp
              have hbyte2 := fun w => run_byte (P := Tryz.prog) w 9 Tryz.underlying9 (t3 ++ [b3]) t3.length (by simp)
              have hx2 : (⟨(t3 ++ [b3]).toArray⟩ : ByteArray).extract 0 t3.length = ⟨t3.toArray⟩ := by rw [toB_ext]; simp
              rw [hg2] at hbyte2
              have ht3 : t3.length < l.length := by simp at ht2; omega
              have a1 : wrap64 ((t3.length : Int) + 1 - 1) = (t3.length : Int) := by unfold wrap64; omega
              have a3 : IntKind.i64.wrap ((t3.length : Int) + 1 - 1) = (t3.length : Int) := by rw [IntKind.wrap_i64]; omega
              have a2 : ((t3.length : Int) + 1 - 1) = (t3.length : Int) := by omega
              have d0 : decide ((t3.length : Int) + 1 > 0) = true := by rw [decide_eq_true_eq]; omega
              have hl2 := Lib.hid (show strLen (.string ⟨t3.toArray⟩) < strLen (.string ⟨(t3 ++ [b3]).toArray⟩) by show (⟨t3.toArray⟩ : ByteArray).size < (⟨(t3 ++ [b3]).toArray⟩ : ByteArray).size; rw [toB_size, toB_size]; simp)
              have Hmore := Lib.hid (fun hb : RSp.ws b3 = true => (show RSp.trim l = RSp.trimR t3 by rw [HI2.out, RSp.trimR_more hb]))
              have Hend := Lib.hid (fun hb : RSp.ws b3 = false => (show RSp.trim l = t3 ++ [b3] by rw [HI2.out, RSp.trimR_end hb]))
              clear HI2 hg2 ht2
              obtain ⟨T2, hT2⟩ : ∃ T : ByteArray, T = ⟨(t3 ++ [b3]).toArray⟩ := ⟨_, rfl⟩
              rw [← hT2] at hsz2 hbyte2 hx2 hl2 ⊢
              replace hT2 := Lib.hid hT2
              have hsz3 : (T2.size : Int) = (t3.length : Int) + 1 := by rw [hsz2]; rfl
              clear hsz2
              by_cases c1 : b3 = 32
              · have Hm := Lib.hid (Hmore.out (by subst c1; rfl))
                have c2 : ((b3.toNat : Int) == 32) = true := by subst c1; rfl
                clear Hmore Hend c1
                go_wp2_with fail
                go_roundw
                case rel => exact ⟨t3, rfl, by omega, Hm, by first | rfl | trivial⟩
                case measure => exact hl2.out
              · have c2 : ((b3.toNat : Int) == 32) = false := ne_byte c1
                by_cases c3 : b3 = 9
                · have Hm := Lib.hid (Hmore.out (by subst c3; rfl))
                  have c4 : ((b3.toNat : Int) == 9) = true := by subst c3; rfl
                  clear Hmore Hend c1 c3
                  go_wp2_with fail
                  go_roundw
                  case rel => exact ⟨t3, rfl, by omega, Hm, by first | rfl | trivial⟩
                  case measure => exact hl2.out
                · have c4 : ((b3.toNat : Int) == 9) = false := ne_byte c3
                  have Hm := Lib.hid (Hend.out (by unfold RSp.ws; rw [beq_eq_false_iff_ne.2 c1, beq_eq_false_iff_ne.2 c3]; rfl))
                  clear Hmore Hend c1 c3
                  go_wp2_with fail
                  go_ret
                  exact ⟨by rw [Hm.out, hT2.out]; rfl, rfl⟩
end Go.Proofs.YtchkckfadennhaaGreatDoor

namespace Go.Proofs.YtchkckfadennhaaGreatDoor
open Go.RowKit
set_option linter.unusedVariables false
set_option linter.unusedSimpArgs false

theorem toBl' (a : Sp.Str) : (⟨a.toArray⟩ : ByteArray).toList = a := by rw [ByteArray.toList_eq]
def CutSaid (ls : List Sp.Str) (w : World) (e : Ending) (w' : World) : Prop := ∃ v, e = .returned v ∧ w'.ownsRow w.heap.size 9 1 v ls.length (strVs ls) ∧ Below w.heap.size w w'
theorem piece_take {l : Sp.Str} {a k : Nat} (ha : a ≤ k) (hk : k < l.length) : (l.take (k + 1)).drop a = (l.take k).drop a ++ [l[k]] := by
  rw [List.take_succ_eq_append_getElem hk, List.drop_append_of_le_length (by rw [List.length_take]; omega)]
theorem strVs_snoc (ls : List Sp.Str) (p : Sp.Str) : strVs ls ++ [.string ⟨p.toArray⟩] = strVs (ls ++ [p]) := by
  unfold strVs
  rw [List.map_append]
  rfl
set_option maxRecDepth 100000 in
set_option maxHeartbeats 1600000 in
theorem cut_ref (l : Sp.Str) (b : UInt8) (w : World) (hl : l.length < 1000000) : Calls Tryz.prog 90 #[.string ⟨l.toArray⟩, .int .u8 b.toNat] w (CutSaid (RSp.cut l b) w) := by
  obtain ⟨S, hS⟩ : ∃ S : ByteArray, S = ⟨l.toArray⟩ := ⟨_, rfl⟩
  have hsz : (S.size : Int) = (l.length : Int) := by rw [hS, toB_size]
  have hszn : S.size = l.length := by rw [hS, toB_size]
  rw [← hS]
  have HS := Lib.hid hS
  clear hS
  go_enter Tryz.func90, Tryz.ntmps90
  go_wp2_with fail
  go_loopw [5, 6, 7] (fun v at' i wr => ∃ (k a : Nat) (outs : List Sp.Str), k ≤ l.length ∧ a ≤ k ∧ i = .int .i64 k ∧ at' = .int .i64 a ∧ Hid (wr.ownsRow w.heap.size 9 1 v outs.length (strVs outs)) ∧ outs.length ≤ k ∧ Hid (RSp.cut l b = outs ++ RSp.cutGo b ((l.take k).drop a) (l.drop k)) ∧ Hid (Below w.heap.size w wr)) (fun _ _ i _ => l.length - (intOf i).toNat)
  case atStart => exact ⟨0, 0, [], by omega, by omega, rfl, rfl, (by show _; exact World.ownsRow_nil _ _ _ _), by simp, rfl, Below.refl _ _⟩
  case round =>
    obtain ⟨k, a, outs, hk, ha, rfl, rfl, HR, ho, HI, HB⟩ := hrel
    by_cases hlt : k < l.length
    · have hbyte := fun w => run_byte (P := Tryz.prog) w 9 Tryz.underlying9 l k hlt
      have hg : l.getD k 0 = l[k] := by rw [List.getD_eq_getElem?_getD, List.getElem?_eq_getElem hlt]; rfl
      have hd : l.drop k = l[k] :: l.drop (k + 1) := List.drop_eq_getElem_cons hlt
      have hpt := piece_take ha hlt
      have hx : (⟨l.toArray⟩ : ByteArray).extract a k = ⟨((l.take k).drop a).toArray⟩ := toB_ext l a k
      rw [hg, ← HS.out] at hbyte
      rw [← HS.out] at hx
      have Hhit := Lib.hid (fun h : l[k] = b => (show RSp.cut l b = (outs ++ [(l.take k).drop a]) ++ RSp.cutGo b ((l.take (k + 1)).drop (k + 1)) (l.drop (k + 1)) by
        rw [HI.out, hd, RSp.cut_hit h, show (l.take (k + 1)).drop (k + 1) = [] from List.drop_eq_nil_of_le (by rw [List.length_take]; omega)]))
      have Hmiss := Lib.hid (fun h : l[k] ≠ b => (show RSp.cut l b = outs ++ RSp.cutGo b ((l.take (k + 1)).drop a) (l.drop (k + 1)) by
        rw [HI.out, hd, RSp.cut_miss h, hpt]))
      clear HI hg hd hpt
      generalize l[k] = x at *
      by_cases hb : x = b
      · have Hh := Lib.hid (Hhit.out hb)
        have c1 : ((x.toNat : Int) == (b.toNat : Int)) = true := by rw [hb]; exact beq_self_eq_true _
        clear Hhit Hmiss hb
        generalize (l.take k).drop a = pc at *
        have hbt : (outs.length + 1) * 16 ≤ 140737488355328 := by omega
        go_wp2_with (at_builtin; refine wp_append_lit slStr rfl (.tmp 19) (.tmp 24) rfl w.heap.size _ _ _ rfl (by exact HR.out) #[.string ⟨pc.toArray⟩] rfl rfl (by simp [Value.oneCell']) (by exact hbt) (by exact HB.out.size) ?_; intro v5 w5 hown5 hg5; have HB5 := Lib.hid (HB.out.grown hg5 HB.out.size (fun k hk => (own_lt HR.out k hk).1)); have HR5 := Lib.hid hown5; clear hg5 hown5)
        go_roundw
        case rel => exact ⟨k + 1, k + 1, outs ++ [pc], by omega, by omega, by go_num, by go_num, (by
          show _
          rw [← strVs_snoc, List.length_append]
          exact HR5.out), by simp; omega, Hh, HB5⟩
        case measure => simp [intOf]; omega
      · have Hh := Lib.hid (Hmiss.out hb)
        have c1 : ((x.toNat : Int) == (b.toNat : Int)) = false := ne_byte hb
        clear Hhit Hmiss hb hx
        go_wp2_with fail
        go_roundw
        case rel => exact ⟨k + 1, a, outs, by omega, by omega, by go_num, rfl, HR, by omega, Hh, HB⟩
        case measure => simp [intOf]; omega
    · obtain rfl : k = l.length := by omega
      have hx : (⟨l.toArray⟩ : ByteArray).extract a (⟨l.toArray⟩ : ByteArray).size = ⟨(l.drop a).toArray⟩ := by rw [toB_ext, toB_size, List.take_length]
      rw [← HS.out] at hx
      have hx' : S.extract a l.length = ⟨(l.drop a).toArray⟩ := by rw [← hszn]; exact hx
      have Hh := Lib.hid (show RSp.cut l b = outs ++ [l.drop a] by rw [HI.out, List.take_length, List.drop_length]; rfl)
      clear HI
      generalize l.drop a = pc at *
      have hbt : (outs.length + 1) * 16 ≤ 140737488355328 := by omega
      have h2 : (a : Int) ≤ (l.length : Int) := by omega
      go_wp2_with (at_builtin; refine wp_append_lit slStr rfl (.tmp 28) (.tmp 32) rfl w.heap.size _ _ _ rfl (by exact HR.out) #[.string ⟨pc.toArray⟩] rfl rfl (by simp [Value.oneCell']) (by exact hbt) (by exact HB.out.size) ?_; intro v5 w5 hown5 hg5; have HB5 := Lib.hid (HB.out.grown hg5 HB.out.size (fun k hk => (own_lt HR.out k hk).1)); have HR5 := Lib.hid hown5; clear hg5 hown5)
      go_ret
      refine ⟨_, rfl, ?_, HB5.out⟩
      rw [Hh.out, ← strVs_snoc, List.length_append]
      exact HR5.out
theorem row_get {w : World} {base g c : Nat} {ls : List Sp.Str} (h : w.ownsRow base 9 1 (.slice (some ⟨g, 0, none⟩) ls.length c) ls.length (strVs ls)) (k : Nat) (hk : k < ls.length) : w.cell? ⟨g, k, none⟩ = some (.string ⟨ls[k].toArray⟩) :=
  (h.cellAt k (by omega)).trans (by unfold strVs; rw [List.getElem?_map, List.getElem?_eq_getElem hk]; rfl)
theorem toB_empty (l : Sp.Str) : ((⟨l.toArray⟩ : ByteArray).toList == []) = l.isEmpty := by
  rw [show (⟨l.toArray⟩ : ByteArray).toList = l from toBl' l]
  cases l <;> rfl
set_option maxRecDepth 100000 in
set_option maxHeartbeats 1600000 in
theorem fields_ref (l : Sp.Str) (w : World) (hl : l.length < 1000000) : Calls Tryz.prog 91 #[.string ⟨l.toArray⟩] w (CutSaid (RSp.fields l) w) := by
  have hcl := fun w => cut_ref l 35 w hl
  have hne := RSp.cut_ne l 35
  have hmem := fun p hp => (RSp.cut_mem l 35 p hp).1
  have hll := (RSp.line_mem l).1
  have Hf := Lib.hid (show RSp.fields l = if RSp.line l = [] then [] else (RSp.cut (RSp.line l) 59).map RSp.trim from rfl)
  have Hline := Lib.hid (show RSp.line l = RSp.trim ((RSp.cut l 35).headD []) from rfl)
  generalize RSp.cut l 35 = C at *
  cases C with
  | nil => exact absurd rfl hne
  | cons c0 C =>
    have hc0 : c0.length ≤ l.length := hmem c0 List.mem_cons_self
    replace Hline := Lib.hid (show RSp.line l = RSp.trim c0 from Hline.out)
    have HC := Lib.hid hcl
    clear hcl hne hmem
    go_enter Tryz.func91, Tryz.ntmps91
    go_wp2_with fail
    refine (HC.out _).mono ?_
    rintro e w1 ⟨v, rfl, hr, hb1⟩
    obtain ⟨g, cap, rfl, hg1, hg2, _, _⟩ := own_form hr (by simp)
    have hcell : w1.cell? ⟨g, 0, none⟩ = some (.string ⟨c0.toArray⟩) := row_get hr 0 (by simp)
    have hlen : (0 : Int) < (((c0 :: C).length : Nat) : Int) := by simp
    have HB1 := Lib.hid hb1
    clear hr hb1 HC
    generalize (c0 :: C).length = n at *
    go_wp2_with fail
    refine (trim_ref c0 _ (by omega)).mono ?_
    rintro e w1' ⟨rfl, rfl⟩
    rw [← Hline.out]
    generalize RSp.line l = ln at *
    by_cases he : ln = []
    · have Hf2 := Lib.hid (show RSp.fields l = [] by rw [Hf.out, if_pos he])
      have c1 : ((⟨ln.toArray⟩ : ByteArray).toList == []) = true := by rw [toB_empty, he]; rfl
      generalize (⟨ln.toArray⟩ : ByteArray) = S at *
      go_wp2_with fail
      go_ret
      exact ⟨_, rfl, by rw [Hf2.out]; exact World.ownsRow_nil _ _ _ _, HB1.out⟩
    · have Hf2 := Lib.hid (show RSp.fields l = (RSp.cut ln 59).map RSp.trim by rw [Hf.out, if_neg he])
      have c1 : ((⟨ln.toArray⟩ : ByteArray).toList == []) = false := by
        rw [toB_empty]
        cases h : ln with
        | nil => exact absurd h he
        | cons => rfl
      have hcl := fun w => cut_ref ln 59 w (by omega)
      have hpl := RSp.cut_len ln 59
      have hmem := fun p hp => (RSp.cut_mem ln 59 p hp).1
      have hne := RSp.cut_ne ln 59
      have HC := Lib.hid hcl
      have HM := Lib.hid hmem
      generalize RSp.cut ln 59 = ps at *
      clear Hf he hcl hmem hcell
      generalize (⟨ln.toArray⟩ : ByteArray) = S at *
      go_wp2_with fail
      refine (HC.out _).mono ?_
      rintro e w2 ⟨v2, rfl, hr2, hb2⟩
      obtain ⟨g2, cap2, rfl, hg3, hg4, _, _⟩ := own_form hr2 (List.length_pos_iff.2 hne)
      have HR2 := Lib.hid hr2
      have HB2 := Lib.hid (HB1.out.trans (hb2.mono HB1.out.size))
      clear hr2 hb2 HC hne HB1
      go_wp2_with fail
      go_loopw [3, 16] (fun v i wr => ∃ k : Nat, k ≤ ps.length ∧ i = .int .i64 k ∧ Hid (wr.ownsRow w2.heap.size 9 1 v ((ps.take k).map RSp.trim).length (strVs ((ps.take k).map RSp.trim))) ∧ Hid (Below w2.heap.size w2 wr)) (fun _ i _ => ps.length - (intOf i).toNat)
      case atStart => exact ⟨0, by omega, rfl, (by show _; rw [List.take_zero]; exact World.ownsRow_nil _ _ _ _), Below.refl _ _⟩
      case round =>
        obtain ⟨k, hk, rfl, HR, HB⟩ := hrel
        by_cases hlt : k < ps.length
        · have hc : wr.cell? ⟨g2, k, none⟩ = some (.string ⟨ps[k].toArray⟩) := cell_later HB.out (row_get HR2.out k hlt)
          have hpk := HM.out ps[k] (List.getElem_mem _)
          have hsn : (ps.take (k + 1)).map RSp.trim = (ps.take k).map RSp.trim ++ [RSp.trim ps[k]] := by rw [List.take_succ_eq_append_getElem hlt, List.map_append]; rfl
          have hol : ((ps.take k).map RSp.trim).length ≤ k := by rw [List.length_map, List.length_take]; omega
          have Hsn := Lib.hid hsn
          have HT := Lib.hid (fun w => trim_ref ps[k] w (by omega))
          generalize ps[k] = pk at *
          generalize (ps.take k).map RSp.trim = outs at *
          clear hsn
          go_wp2_with fail
          refine (HT.out _).mono ?_
          rintro e w3 ⟨rfl, rfl⟩
          have hbt : (outs.length + 1) * 16 ≤ 140737488355328 := by omega
          generalize RSp.trim pk = pc at *
          clear HT hc hpk
          go_wp2_with (at_builtin; refine wp_append_lit slStr rfl (.tmp 20) (.tmp 23) rfl w2.heap.size _ _ _ rfl (by exact HR.out) #[.string ⟨pc.toArray⟩] rfl rfl (by simp [Value.oneCell']) (by exact hbt) (by exact HB.out.size) ?_; intro v5 w5 hown5 hg5; have HB5 := Lib.hid (HB.out.grown hg5 HB.out.size (fun k hk => (own_lt HR.out k hk).1)); have HR5 := Lib.hid hown5; clear hg5 hown5)
          go_roundw
          case rel => exact ⟨k + 1, by omega, by go_num, (by
            show _
            rw [Hsn.out, ← strVs_snoc, List.length_append]
            exact HR5.out), HB5⟩
          case measure => simp [intOf]; omega
        · obtain rfl : k = ps.length := by omega
          have hfin : CutSaid (RSp.fields l) w (.returned u3) wr := by
            have h1 := HR.out
            rw [List.take_length] at h1
            exact ⟨u3, rfl, by rw [Hf2.out]; exact own_base h1 HB2.out.size, HB2.out.trans (HB.out.mono HB2.out.size)⟩
          clear HR HB
          go_wp2_with fail
          go_ret
          exact hfin
end Go.Proofs.YtchkckfadennhaaGreatDoor

namespace Go.Proofs.YtchkckfadennhaaGreatDoor
open Go.RowKit
set_option linter.unusedVariables false
set_option linter.unusedSimpArgs false

def HexRef (s : ByteArray) (w : World) (e : Ending) (w' : World) : Prop := e = .returned (.tuple #[.int .i64 ((Sp.hex s.data.toList).getD 0 : Nat), .bool (Sp.hex s.data.toList).isSome]) ∧ w = w'
set_option maxRecDepth 100000 in
set_option maxHeartbeats 1600000 in
theorem hex_ref (s : ByteArray) (w : World) : Calls Tryz.prog 65 #[.string s] w (HexRef s w) := by
  by_cases h46 : s.size < 4 ∨ 6 < s.size
  · have e : Sp.hex s.data.toList = none := by unfold Sp.hex; rw [if_pos (by simpa using h46)]
    have hfin : HexRef s w (.returned (.tuple #[.int .i64 0, .bool false])) w := ⟨by rw [e]; rfl, rfl⟩
    clear e
    rcases h46 with h4 | h6
    · have h4' : decide ((s.size : Int) < 4) = true := by simp; omega
      go_enter Tryz.func65, Tryz.ntmps65
      go_wp2
      go_ret2
      exact hfin
    · have h4' : decide ((s.size : Int) < 4) = false := by simp; omega
      have h6' : decide ((s.size : Int) > 6) = true := by simp; omega
      go_enter Tryz.func65, Tryz.ntmps65
      go_wp2
      go_ret2
      exact hfin
  · have h4 : 4 ≤ s.size := by omega
    have h6 : s.size ≤ 6 := by omega
    have h4' : decide ((s.size : Int) < 4) = false := by simp; omega
    have h6' : decide ((s.size : Int) > 6) = false := by simp; omega
    clear h46
    go_enter Tryz.func65, Tryz.ntmps65
    go_wp2
    go_loopw [4, 5] (fun n i wr => ∃ k m : Nat, k ≤ s.size ∧ w = wr ∧ n = .int .i64 m ∧ i = .int .i64 k ∧ HexAt s k m) (fun _ i _ => s.size - (intOf i).toNat)
    case atStart => exact ⟨0, 0, by omega, rfl, rfl, rfl, rfl, by decide⟩
    case round =>
      obtain ⟨k, m, hk, rfl, rfl, rfl, hat⟩ := hrel
      by_cases hlt : k < s.size
      · have hm := hat.lt (by omega)
        have hbyte : ∀ w, (Instr.index 9 (.string s) (.int .i64 (k : Int))).run Tryz.prog w = .ok (.int .u8 ((s[k]'hlt).toNat : Int)) w := fun w => by
          rw [run_index_string w _ _ _ _ Tryz.underlying9, dif_pos (by omega)]
          rfl
        have Hbad := Lib.hid (fun hd : Sp.hexDig (s[k]'hlt) = none => (show HexRef s w (.returned (.tuple #[.int .i64 0, .bool false])) w from ⟨by rw [hat.bad hlt hd]; rfl, rfl⟩))
        have Hgo := Lib.hid (fun (d : Nat) (hd : Sp.hexDig (s[k]'hlt) = some d) => hat.step hlt hd)
        have hdl := fun (d : Nat) (hd : Sp.hexDig (s[k]'hlt) = some d) => Sp.hexDig_lt hd
        clear hat
        generalize s[k]'hlt = x at *
        have hx := x.toNat_lt
        by_cases hA : 48 ≤ (x.toNat : Int) ∧ (x.toNat : Int) ≤ 57
        · have Hm := Lib.hid (Hgo.out _ (hexDig_a hA.1 hA.2))
          have d1 := decide_eq_true (show (x.toNat : Int) ≥ 48 from hA.1)
          have d2 := decide_eq_true hA.2
          clear Hgo Hbad hdl
          go_wp2
          go_roundw
          case rel => exact ⟨k + 1, m * 16 + (x.toNat - 48), by omega, by first | rfl | trivial, by congr 1; omega, by go_num, Hm.out⟩
          case measure => simp [intOf]; omega
        by_cases hB : 97 ≤ (x.toNat : Int) ∧ (x.toNat : Int) ≤ 102
        · have Hm := Lib.hid (Hgo.out _ (hexDig_c hB.1 hB.2))
          have d1 := decide_eq_true (show (x.toNat : Int) ≥ 48 by omega)
          have d2 := decide_eq_false (show ¬ (x.toNat : Int) ≤ 57 by omega)
          have d3 := decide_eq_true (show (x.toNat : Int) ≥ 97 from hB.1)
          have d4 := decide_eq_true hB.2
          clear Hgo Hbad hdl
          go_wp2
          go_roundw
          case rel => exact ⟨k + 1, m * 16 + (x.toNat - 87), by omega, by first | rfl | trivial, by congr 1; omega, by go_num, Hm.out⟩
          case measure => simp [intOf]; omega
        by_cases hC : 65 ≤ (x.toNat : Int) ∧ (x.toNat : Int) ≤ 70
        · have Hm := Lib.hid (Hgo.out _ (hexDig_b hC.1 hC.2))
          have d1 := decide_eq_true (show (x.toNat : Int) ≥ 48 by omega)
          have d2 := decide_eq_false (show ¬ (x.toNat : Int) ≤ 57 by omega)
          have d3 := decide_eq_false (show ¬ (x.toNat : Int) ≥ 97 by omega)
          have d4 := decide_eq_true (show (x.toNat : Int) ≥ 65 from hC.1)
          have d5 := decide_eq_true hC.2
          clear Hgo Hbad hdl
          go_wp2
          go_roundw
          case rel => exact ⟨k + 1, m * 16 + (x.toNat - 55), by omega, by first | rfl | trivial, by congr 1; omega, by go_num, Hm.out⟩
          case measure => simp [intOf]; omega
        have Hb := Lib.hid (Hbad.out (hexDig_d (by omega) (by omega) (by omega)))
        clear Hgo Hbad hdl
        go_wp2
        all_goals first
          | (go_ret2; exact Hb.out)
          | (exfalso; (try simp only [beq_eq_false_iff_ne, beq_iff_eq, ne_eq, decide_eq_false_iff_not, decide_eq_true_eq] at *); omega)
      · obtain rfl : k = s.size := by omega
        have hfin := hat.done h4 h6
        have hm := hat.lt h6
        have HF := Lib.hid hfin
        clear hfin hat hk hlt
        by_cases hbig : 1114111 < m
        · have hfin2 : HexRef s w (.returned (.tuple #[.int .i64 0, .bool false])) w := ⟨by rw [HF.out, if_pos hbig]; rfl, rfl⟩
          have d1 := decide_eq_true (show (m : Int) > 1114111 by omega)
          clear HF
          go_wp2
          go_ret2
          exact hfin2
        · have hfin2 : HexRef s w (.returned (.tuple #[.int .i64 m, .bool true])) w := ⟨by rw [HF.out, if_neg hbig]; rfl, rfl⟩
          have d1 := decide_eq_false (show ¬ (m : Int) > 1114111 by omega)
          clear HF
          go_wp2
          go_ret2
          exact hfin2
end Go.Proofs.YtchkckfadennhaaGreatDoor

namespace Go.Proofs.YtchkckfadennhaaGreatDoor
open Go.RowKit
set_option linter.unusedVariables false
set_option linter.unusedSimpArgs false

def RecRef (fs : List Sp.Str) (w : World) (e : Ending) (w' : World) : Prop := Below w.heap.size w w' ∧
  match RSp.record fs with
  | none => e = .returned (.tuple #[.agg #[.int .i64 0, .int .i64 0, .slice none 0 0], .bool false])
  | some r => ∃ v, e = .returned (.tuple #[.agg #[.int .i64 r.lo, .int .i64 r.hi, v], .bool true]) ∧ w'.ownsRow w.heap.size 9 1 v r.fields.length (strVs r.fields)
theorem hexr (l : Sp.Str) (w : World) : Calls Tryz.prog 65 #[.string ⟨l.toArray⟩] w fun e w' => e = .returned (.tuple #[.int .i64 ((Sp.hex l).getD 0 : Nat), .bool (Sp.hex l).isSome]) ∧ w = w' := hex_ref ⟨l.toArray⟩ w
theorem hexr_some {l : Sp.Str} {n : Nat} (h : Sp.hex l = some n) (w : World) : Calls Tryz.prog 65 #[.string ⟨l.toArray⟩] w fun e w' => e = .returned (.tuple #[.int .i64 n, .bool true]) ∧ w = w' := by
  have := hexr l w
  rw [h] at this
  exact this
theorem hexr_none {l : Sp.Str} (h : Sp.hex l = none) (w : World) : Calls Tryz.prog 65 #[.string ⟨l.toArray⟩] w fun e w' => e = .returned (.tuple #[.int .i64 0, .bool false]) ∧ w = w' := by
  have := hexr l w
  rw [h] at this
  exact this
theorem dots_hit {pre l : Sp.Str} : RSp.dots pre (46 :: 46 :: l) = some (pre, l) := by unfold RSp.dots; rw [if_pos ⟨rfl, rfl⟩]
theorem dots_miss {pre l : Sp.Str} {a b : UInt8} (h : ¬ (a = 46 ∧ b = 46)) : RSp.dots pre (a :: b :: l) = RSp.dots (pre ++ [a]) (b :: l) := by rw [RSp.dots, if_neg h]
theorem dots_end {pre l : Sp.Str} (h : l.length < 2) : RSp.dots pre l = none := by
  match l, h with
  | [], _ => rfl
  | [_], _ => rfl
set_option maxRecDepth 100000 in
theorem record_ref_short (a : Option Addr) (n cap : Nat) (hn : n < 2) (w : World) :
    Calls Tryz.prog 92 #[.slice a n cap] w fun e w' => e = .returned (.tuple #[.agg #[.int .i64 0, .int .i64 0, .slice none 0 0], .bool false]) ∧ Below w.heap.size w w' := by
  go_enter Tryz.func92, Tryz.ntmps92
  go_wp2_with fail
  refine bodyPost_ret (v := .tuple #[.agg #[.int .i64 0, .int .i64 0, .slice none 0 0], .bool false]) (by simp [results, Tryz.results92, go_sem]) rfl ⟨rfl, ?_⟩
  have hb := alloc_below w (Obj.cells #[Value.int IntKind.i64 0, Value.int IntKind.i64 0, Value.slice none 0 0] 56)
  first
    | exact hb
    | exact ((hb.setCell (by simp) _).setCell (by simp) _).setCell (by simp) _
set_option maxRecDepth 100000 in
set_option maxHeartbeats 6400000 in
theorem record_ref_long (g n cap : Nat) (f0 : Sp.Str) (rest : List Sp.Str) (base : Nat) (w : World) (hn : Hid (n = rest.length + 1)) (hn2 : 2 ≤ n) (hsmall : n * 16 ≤ 140737488355328)
    (hown : w.ownsRow base 9 1 (.slice (some ⟨g, 0, none⟩) n cap) n (strVs (f0 :: rest)))
    (hl0 : f0.length < 1000000) : Calls Tryz.prog 92 #[.slice (some ⟨g, 0, none⟩) n cap] w (RecRef (f0 :: rest) w) := by
  have hc0 : w.cell? ⟨g, 0, none⟩ = some (.string ⟨f0.toArray⟩) := hown.cellAt 0 (by omega)
  have hgl : g < w.heap.size := block_lt_of_cell hc0
  have hnc : n ≤ cap := by
    obtain ⟨g', cap', he, _, _, h1, h2⟩ := own_form hown (by omega)
    injection he with _ _ h3
    omega
  have hcm : cap ≤ 9223372036854775807 := by
    obtain ⟨g', cap', he, _, _, h1, h2⟩ := own_form hown (by omega)
    injection he with _ _ h3
    unfold maxLen at h2
    omega
  have hB1 := alloc_below w (Obj.cells #[Value.int IntKind.i64 0, Value.int IntKind.i64 0, Value.slice none 0 0] 56)
  have hrow := row_new w (Obj.cells #[Value.int IntKind.i64 0, Value.int IntKind.i64 0, Value.slice none 0 0] 56)
  have hsz1 := size_new w (Obj.cells #[Value.int IntKind.i64 0, Value.int IntKind.i64 0, Value.slice none 0 0] 56)
  have hown1 := own_below hown hB1
  have hc1 := cell_later hB1 hc0
  obtain ⟨W1, hW1⟩ : ∃ W1, W1 = w.alloc (Obj.cells #[Value.int IntKind.i64 0, Value.int IntKind.i64 0, Value.slice none 0 0] 56) := ⟨_, rfl⟩
  rw [← hW1] at hB1 hrow hsz1 hown1 hc1
  obtain ⟨S, hS⟩ : ∃ S : ByteArray, S = ⟨f0.toArray⟩ := ⟨_, rfl⟩
  rw [← hS] at hc1 hc0
  have hszS : (S.size : Int) = (f0.length : Int) := by rw [hS, toB_size]
  have hszN : S.size = f0.length := by rw [hS, toB_size]
  have HS := Lib.hid hS
  have HC1 := Lib.hid hc1
  have HB1 := Lib.hid hB1
  have Hrow := Lib.hid hrow
  have Hsz1 := Lib.hid hsz1
  have Hown1 := Lib.hid hown1
  have hbad : RSp.record (f0 :: rest) = none → ∀ w4 : World, Below w.heap.size w w4 → RecRef (f0 :: rest) w (.returned (.tuple #[.agg #[.int .i64 0, .int .i64 0, .slice none 0 0], .bool false])) w4 := fun h w4 hb => by
    refine ⟨hb, ?_⟩
    rw [h]
  have Hbad := Lib.hid hbad
  have Hgl := Lib.hid hgl
  clear hbad hown hS hc1 hB1 hrow hsz1 hown1 hgl
  go_enter Tryz.func92, Tryz.ntmps92
  go_upto_region 3 with fail
  rw [← hW1]
  clear hW1 hc0
  go_cut [4, 5] (fun c d wx => c = .string S ∧ d = .string S ∧ Below W1.heap.size W1 wx)
  case first =>
    have hc := HC1.out
    go_quiet (fail)
    simp only [Exit.then]
    go_wp2_with fail
    go_meet
    case rel => exact ⟨rfl, rfl, below_drewN _ _⟩
  case rest =>
  obtain ⟨rfl, rfl, hb_⟩ := hcut
  have HBr := Lib.hid hb_
  clear hb_
  go_upto_block 0 with fail
  go_cut [4, 5] (fun c d wx => ∃ lo hi : Sp.Str, c = .string ⟨lo.toArray⟩ ∧ d = .string ⟨hi.toArray⟩ ∧ RSp.ends f0 = (lo, hi) ∧ Below W1.heap.size W1 wx)
  case first =>
    go_wp2_with fail
    go_loopw [4, 5, 6] (fun c d i wr => ∃ k : Nat, k ≤ f0.length ∧ c = .string S ∧ d = .string S ∧ i = .int .i64 k ∧ Hid (RSp.dots [] f0 = RSp.dots (f0.take k) (f0.drop k)) ∧ Hid (Below W1.heap.size W1 wr)) (fun _ _ i _ => f0.length - (intOf i).toNat)
    case atStart => exact ⟨0, by omega, rfl, rfl, rfl, rfl, HBr⟩
    case round =>
      obtain ⟨k, hk, rfl, rfl, rfl, HI, HB⟩ := hrel
      have hc := cell_later HB.out HC1.out
      have a1 : IntKind.i64.wrap ((k : Int) + 1) = k + 1 := by rw [IntKind.wrap_i64]; omega
      have a2 : IntKind.i64.wrap ((k : Int) + 2) = k + 2 := by rw [IntKind.wrap_i64]; omega
      by_cases hlt : k + 1 < f0.length
      · have d1 := decide_eq_true (show (k : Int) + 1 < (f0.length : Int) by omega)
        have hd : f0.drop k = f0[k] :: f0[k + 1] :: f0.drop (k + 2) := by rw [List.drop_eq_getElem_cons (by omega), List.drop_eq_getElem_cons hlt]
        have hx : (⟨f0.toArray⟩ : ByteArray).extract k (k + 2) = ⟨#[f0[k], f0[k + 1]]⟩ := by
          rw [toB_ext]
          have : (f0.take (k + 2)).drop k = [f0[k], f0[k + 1]] := by
            rw [List.take_succ_eq_append_getElem hlt, List.take_succ_eq_append_getElem (by omega), List.append_assoc, List.drop_append_of_le_length (by rw [List.length_take]; omega), List.drop_eq_nil_of_le (by rw [List.length_take]; omega)]
            rfl
          rw [this]
        rw [← HS.out] at hx
        have hmore : ¬ (f0[k] = 46 ∧ f0[k + 1] = 46) → RSp.dots [] f0 = RSp.dots (f0.take (k + 1)) (f0.drop (k + 1)) := fun h => by
          rw [HI.out, hd, dots_miss h, List.take_succ_eq_append_getElem (by omega), List.drop_eq_getElem_cons hlt]
        have hhit : f0[k] = 46 ∧ f0[k + 1] = 46 → RSp.ends f0 = (f0.take k, f0.drop (k + 2)) := fun h => by
          unfold RSp.ends
          rw [HI.out, hd, h.1, h.2, dots_hit]
          rfl
        have Hmore := Lib.hid hmore
        have Hhit := Lib.hid hhit
        have h2 : (k : Int) + 2 ≤ (f0.length : Int) := by omega
        have hxt : (⟨#[f0[k], f0[k + 1]]⟩ : ByteArray).toList = [f0[k], f0[k + 1]] := toBl' [f0[k], f0[k + 1]]
        clear HI hd hmore hhit
        generalize f0[k] = x at *
        generalize f0[k + 1] = y at *
        by_cases hxy : x = 46 ∧ y = 46
        · have He := Lib.hid (Hhit.out hxy)
          have c1 : (S.extract k (k + 2)).toList = [46, 46] := by rw [hx, hxt, hxy.1, hxy.2]
          have hx1 : S.extract 0 k = ⟨(f0.take k).toArray⟩ := by rw [HS.out, toB_ext, List.drop_zero]
          have hx2 : S.extract (k + 2) S.size = ⟨(f0.drop (k + 2)).toArray⟩ := by rw [HS.out, toB_ext, toB_size, List.take_length]
          have hx3 : S.extract (k + 2) f0.length = ⟨(f0.drop (k + 2)).toArray⟩ := by rw [← hszN]; exact hx2
          clear Hhit Hmore hxy hx hxt
          generalize f0.take k = lo at *
          generalize f0.drop (k + 2) = hi at *
          go_wp2_with fail
          go_quiet (fail)
          simp only [Exit.then]
          go_wp2_with fail
          go_meet
          case rel => exact ⟨lo, hi, by first | rfl | (congr 1), by first | rfl | (congr 1), He.out, HB.out.trans ((below_drewN _ _).mono HB.out.size)⟩
        · have He := Lib.hid (Hmore.out hxy)
          have c1 : ((S.extract k (k + 2)).toList == [46, 46]) = false := by
            rw [hx, hxt, beq_eq_false_iff_ne]
            intro e
            injection e with e1 e2
            injection e2 with e2 _
            exact hxy ⟨e1, e2⟩
          clear Hhit Hmore hxy hx hxt
          go_wp2_with fail
          go_roundw
          case rel => exact ⟨k + 1, by omega, rfl, rfl, by go_num, He, HB⟩
          case measure => simp [intOf]; omega
      · have d1 := decide_eq_false (show ¬ (k : Int) + 1 < (f0.length : Int) by omega)
        have He := Lib.hid (show RSp.ends f0 = (f0, f0) by
          unfold RSp.ends
          rw [HI.out, dots_end (by rw [List.length_drop]; omega)]
          rfl)
        clear HI
        go_wp2_with fail
        go_meet
        case rel => exact ⟨f0, f0, by rw [HS.out], by rw [HS.out], He.out, HB.out⟩
  case rest =>
  obtain ⟨lo, hi, rfl, rfl, he, hb_⟩ := hcut
  replace HBr := Lib.hid hb_
  have He := Lib.hid he
  clear hb_ he
  have hrow := (HBr.out.block w.heap.size (by rw [Hsz1.out]; omega)).trans Hrow.out
  have r0 := (cells_of_row hrow).1 0
  have r1 := (cells_of_row hrow).1 1
  have r2 := (cells_of_row hrow).1 2
  have q0 := (cells_of_row hrow).2 0
  have q1 := (cells_of_row hrow).2 1
  have q2 := (cells_of_row hrow).2 2
  simp at r0 r1 r2
  have hb' : Below w.heap.size w wc := HB1.out.trans (HBr.out.mono HB1.out.size)
  have hrec : ∀ f1 rest', rest = f1 :: rest' → RSp.record (f0 :: rest) = (match Sp.hex lo, Sp.hex hi with
    | some a, some b => if b < a then none else some ⟨a, b, rest⟩
    | _, _ => none) := fun f1 rest' h => by
    subst h
    unfold RSp.record
    simp only [He.out]
    cases Sp.hex lo with
    | none => rfl
    | some a =>
      cases Sp.hex hi with
      | none => rfl
      | some b => rfl
  obtain ⟨f1, rest', hrr⟩ : ∃ f1 rest', rest = f1 :: rest' := by
    cases rest with
    | nil => have := hn.out; simp at this; omega
    | cons f1 rest' => exact ⟨f1, rest', rfl⟩
  replace hrec := hrec f1 rest' hrr
  have Hrec := Lib.hid hrec
  have hown3 := own_below Hown1.out HBr.out
  have Hb' := Lib.hid hb'
  have Hrowc := Lib.hid hrow
  have Hown3 := Lib.hid hown3
  have hne3 : w.heap.size < wc.heap.size := by have := HBr.out.size; rw [Hsz1.out] at this; omega
  clear hrec hrr hrow hb' hown3 He Hown1 Hrow HS HC1
  cases hA : Sp.hex lo with
  | none =>
    have HRec := Lib.hid (show RSp.record (f0 :: rest) = none by rw [Hrec.out, hA])
    have HA := Lib.hid hA
    clear hA
    go_wp2_with fail
    refine (hexr_none HA.out _).mono ?_
    rintro e w2 ⟨rfl, rfl⟩
    go_wp2_with fail
    refine (hexr hi _).mono ?_
    rintro e w3 ⟨rfl, rfl⟩
    go_wp2_with fail
    refine bodyPost_ret (v := .tuple #[.agg #[.int .i64 0, .int .i64 0, .slice none 0 0], .bool false]) (by simp [results, Tryz.results92, go_sem, r0, r1, r2]) rfl (Hbad.out HRec.out _ ?_)
    exact ((Hb'.out.setCell (by simp) _).setCell (by simp) _).setCell (by simp) _
  | some a =>
    have HA := Lib.hid hA
    have hale := hex_le hA
    clear hA
    go_wp2_with fail
    refine (hexr_some HA.out _).mono ?_
    rintro e w2 ⟨rfl, rfl⟩
    cases hB : Sp.hex hi with
    | none =>
      have HRec := Lib.hid (show RSp.record (f0 :: rest) = none by rw [Hrec.out, HA.out, hB])
      have HB := Lib.hid hB
      clear hB
      go_wp2_with fail
      refine (hexr_none HB.out _).mono ?_
      rintro e w3 ⟨rfl, rfl⟩
      go_wp2_with fail
      refine bodyPost_ret (v := .tuple #[.agg #[.int .i64 0, .int .i64 0, .slice none 0 0], .bool false]) (by simp [results, Tryz.results92, go_sem, r0, r1, r2]) rfl (Hbad.out HRec.out _ ?_)
      exact ((Hb'.out.setCell (by simp) _).setCell (by simp) _).setCell (by simp) _
    | some b =>
      have HB := Lib.hid hB
      have hble := hex_le hB
      clear hB
      go_wp2_with fail
      refine (hexr_some HB.out _).mono ?_
      rintro e w3 ⟨rfl, rfl⟩
      by_cases hba : b < a
      · have HRec := Lib.hid (show RSp.record (f0 :: rest) = none by rw [Hrec.out, HA.out, HB.out]; simp only [if_pos hba])
        have d1 := decide_eq_true hba
        clear hba
        go_wp2_with fail
        refine bodyPost_ret (v := .tuple #[.agg #[.int .i64 0, .int .i64 0, .slice none 0 0], .bool false]) (by simp [results, Tryz.results92, go_sem, r0, r1, r2]) rfl (Hbad.out HRec.out _ ?_)
        exact ((Hb'.out.setCell (by simp) _).setCell (by simp) _).setCell (by simp) _
      · have hRec : RSp.record (f0 :: rest) = some ⟨a, b, rest⟩ := by rw [Hrec.out, HA.out, HB.out]; simp only [if_neg hba]
        have d1 := decide_eq_false hba
        have hlit : (wc.alloc (Obj.cells #[] 9)).ownsRow wc.heap.size 9 1 (.slice (some ⟨wc.heap.size, 0, none⟩) 0 0) 0 [] := World.ownsRow_lit (size := 1) wc #[] 0 (Nat.le_refl _) (by decide) rfl
        have hnews : ∀ j u, (strVs rest)[j]? = some u → (wc.alloc (Obj.cells #[] 9)).cell? ((⟨g, 1, none⟩ : Addr).add j) = some u := fun j u hu => by
          rw [add_plain]; exact own_cell (Hown3.out.alloc (Obj.cells #[] 9)) (1 + j) u (by rw [Nat.add_comm]; exact hu)
        have hlen : (strVs rest).length = (n - 1) * 1 := by have := hn.out; unfold strVs; rw [List.length_map]; omega
        have hone : ∀ u ∈ strVs rest, u.oneCell' = true := fun u hu => by obtain ⟨x, _, rfl⟩ := List.mem_map.1 hu; rfl
        have hgood : ∀ v w4, w4.ownsRow w.heap.size 9 1 v (0 + (n - 1)) ([] ++ strVs rest) → Below w.heap.size w w4 → RecRef (f0 :: rest) w (.returned (.tuple #[.agg #[.int .i64 a, .int .i64 b, v], .bool true])) w4 := fun v w4 h1 h2 => by
          refine ⟨h2, ?_⟩
          rw [hRec]
          refine ⟨v, rfl, ?_⟩
          have e : 0 + (n - 1) = rest.length := by have := hn.out; omega
          rw [e] at h1
          exact h1
        have hzb : Below w.heap.size w (wc.alloc (Obj.cells #[] 9)) := Hb'.out.alloc Hb'.out.size _
        have Hlit := Lib.hid hlit
        have Hnews := Lib.hid hnews
        have Hlen := Lib.hid hlen
        have Hone := Lib.hid hone
        have Hgood := Lib.hid hgood
        have hcapb : (0 + (n - 1)) * 16 ≤ 140737488355328 := by have := hsmall; omega
        have Hrowz := Lib.hid (alloc_row Hrowc.out (Obj.cells #[] 9))
        clear hba Hbad hlit hnews hlen hone hgood hRec r0 r1 r2 q0 q1 q2
        go_wp2_with (at_builtin; refine wp_append _ slStr rfl (.tmp 73) (.tmp 75) rfl wc.heap.size (.slice (some ⟨wc.heap.size, 0, none⟩) 0 0) 0 [] rfl (by exact Hlit.out) ⟨g, 1, none⟩ (n - 1) (cap - 1) (strVs rest) rfl Hlen.out (by exact Hnews.out) Hone.out hcapb (by rw [size_new]; omega) ?_; intro v4 w4 hown4 hg4 _ hat4; have hrow4 := grown_row hg4 Hrowz.out (by simp [Value.ownBlock]; omega); have hb4 : Below w.heap.size w w4 := hzb.grown hg4 hzb.size (by intro k hk; simp [Value.ownBlock] at hk; omega); have r0 := (cells_of_row hrow4).1 0; have r1 := (cells_of_row hrow4).1 1; have r2 := (cells_of_row hrow4).1 2; have q0 := (cells_of_row hrow4).2 0; have q1 := (cells_of_row hrow4).2 1; have q2 := (cells_of_row hrow4).2 2; simp at r0 r1 r2; clear hg4 hat4 hrow4; obtain ⟨A4, c4, rfl⟩ := own_slice hown4)
        refine bodyPost_ret (v := .tuple #[.agg #[.int .i64 a, .int .i64 b, .slice A4 (0 + (n - 1)) c4], .bool true]) (by simp [results, Tryz.results92, go_sem, r0, r1, r2]) rfl (Hgood.out _ _ ?_ ?_)
        · exact own_base (ownsRow_setCell_below (ownsRow_setCell_below (ownsRow_setCell_below hown4 hne3 _) hne3 _) hne3 _) (by omega)
        · exact ((hb4.setCell (by simp) _).setCell (by simp) _).setCell (by simp) _
theorem record_ref (fs : List Sp.Str) (v : Value) (base : Nat) (w : World) (hown : w.ownsRow base 9 1 v fs.length (strVs fs)) (hsmall : fs.length * 16 ≤ 140737488355328) (hl : ∀ f ∈ fs, f.length < 1000000) :
    Calls Tryz.prog 92 #[v] w (RecRef fs w) := by
  match fs, hown, hsmall, hl with
  | [], hown, _, _ =>
    obtain ⟨A, c, rfl⟩ := own_slice hown
    exact (record_ref_short A 0 c (by omega) w).mono fun e w' h => ⟨h.2, h.1⟩
  | [f0], hown, _, _ =>
    obtain ⟨A, c, rfl⟩ := own_slice hown
    exact (record_ref_short A 1 c (by omega) w).mono fun e w' h => ⟨h.2, h.1⟩
  | f0 :: f1 :: rest, hown, hsmall, hl =>
    obtain ⟨g, cap, rfl, _⟩ := own_form hown (by simp)
    exact record_ref_long g _ cap f0 (f1 :: rest) base w (Lib.hid rfl) (by simp) hsmall hown (hl f0 List.mem_cons_self)
end Go.Proofs.YtchkckfadennhaaGreatDoor

namespace Go.Proofs.YtchkckfadennhaaGreatDoor
open Go.RowKit
set_option linter.unusedVariables false
set_option linter.unusedSimpArgs false

def LeftR (ps : List Sp.Str) (k : Nat) (recs rs : List Rec) : Prop := ∃ rest, RSp.parseGo (ps.drop k) = some rest ∧ recs = rs ++ rest
theorem LeftR.skip {ps : List Sp.Str} {k : Nat} {recs rs : List Rec} (h : LeftR ps k recs rs) (hk : k < ps.length) (hf : RSp.fields ps[k] = []) : LeftR ps (k + 1) recs rs := by
  obtain ⟨rest, h1, h2⟩ := h
  rw [List.drop_eq_getElem_cons hk, RSp.parseGo, if_pos hf] at h1
  exact ⟨rest, h1, h2⟩
theorem LeftR.take {ps : List Sp.Str} {k : Nat} {recs rs : List Rec} (h : LeftR ps k recs rs) (hk : k < ps.length) (hf : RSp.fields ps[k] ≠ []) : ∃ r, RSp.record (RSp.fields ps[k]) = some r ∧ LeftR ps (k + 1) recs (rs ++ [r]) := by
  obtain ⟨rest, h1, h2⟩ := h
  rw [List.drop_eq_getElem_cons hk, RSp.parseGo, if_neg hf] at h1
  cases hr : RSp.record (RSp.fields ps[k]) with
  | none => rw [hr] at h1; simp at h1
  | some r =>
    rw [hr] at h1
    simp only [Option.map_eq_some_iff] at h1
    obtain ⟨rest', h3, rfl⟩ := h1
    exact ⟨r, rfl, rest', h3, by rw [h2]; simp⟩
theorem LeftR.done {ps : List Sp.Str} {recs rs : List Rec} (h : LeftR ps ps.length recs rs) : recs = rs := by
  obtain ⟨rest, h1, h2⟩ := h
  rw [List.drop_of_length_le (Nat.le_refl _)] at h1
  simp [RSp.parseGo] at h1
  simp [h2, h1]
set_option maxRecDepth 100000 in
set_option maxHeartbeats 3200000 in
theorem parse_ref (l : Sp.Str) (recs : List Rec) (w : World) (hl : l.length < 1000000) (hp : RSp.parse l = some recs) : Calls Tryz.prog 64 #[.string ⟨l.toArray⟩] w (ParseSaid recs w) := by
  have HC := Lib.hid (fun w => cut_ref l 10 w hl)
  have hne := RSp.cut_ne l 10
  have hlen := RSp.cut_len l 10
  have hmem := fun p hp => (RSp.cut_mem l 10 p hp).1
  have hleft : LeftR (RSp.cut l 10) 0 recs [] := ⟨recs, by rw [List.drop_zero]; exact hp, rfl⟩
  generalize RSp.cut l 10 = ps at *
  have HM := Lib.hid hmem
  have Hleft := Lib.hid hleft
  have hps : ps.length ≤ 1000000 := by omega
  clear hp hmem hleft
  go_enter Tryz.func64, Tryz.ntmps64
  go_wp2_with fail
  refine (HC.out _).mono ?_
  rintro e w1 ⟨v0, rfl, hr0, hb1⟩
  obtain ⟨g0, cap0, rfl, hg1, hg2, _, _⟩ := own_form hr0 (List.length_pos_iff.2 hne)
  have HR0 := Lib.hid hr0
  have HB1 := Lib.hid hb1
  have hown1 : RecsAt w1 w1.heap.size (.slice none 0 0) [] [] := ⟨rfl, World.ownsRow_nil _ _ _ _, fun i r u h => by simp at h⟩
  clear hr0 hb1 HC hne
  go_wp2_with fail
  go_loopw [5, 14] (fun v i wr => ∃ (k : Nat) (rs : List Rec) (fv : List Value), k ≤ ps.length ∧ i = .int .i64 k ∧ Hid (RecsAt wr w1.heap.size v rs fv) ∧ Hid (LeftR ps k recs rs) ∧ rs.length ≤ k ∧ Hid (Below w1.heap.size w1 wr)) (fun _ i _ => ps.length - (intOf i).toNat)
  case atStart => exact ⟨0, [], [], by omega, rfl, hown1, Hleft, by simp, Below.refl _ _⟩
  case round =>
    obtain ⟨k, rs, fv, hk, rfl, HR, HL, hrl, HB⟩ := hrel
    clear hown1 Hleft
    by_cases hlt : k < ps.length
    · have hc : wr.cell? ⟨g0, k, none⟩ = some (.string ⟨ps[k].toArray⟩) := cell_later HB.out (row_get HR0.out k hlt)
      have hpk := HM.out ps[k] (List.getElem_mem _)
      have HF := Lib.hid (fun w => fields_ref ps[k] w (by omega))
      have hfl := RSp.fields_len ps[k]
      have hskip := fun hf => HL.out.skip hlt hf
      have htake := fun hf => HL.out.take hlt hf
      have hmem : ∀ f ∈ RSp.fields ps[k], f.length < 1000000 := fun f hf => by
        have := (RSp.fields_mem ps[k] f hf).1
        omega
      generalize ps[k] = p at *
      have Hskip := Lib.hid hskip
      have Htake := Lib.hid htake
      have Hmem := Lib.hid hmem
      clear hskip htake hmem HL
      go_wp2_with fail
      refine (HF.out _).mono ?_
      rintro e w2 ⟨vf, rfl, hown2, hb2⟩
      have HR2 := Lib.hid (HR.out.below hb2)
      have HB2 := Lib.hid (HB.out.trans (hb2.mono HB.out.size))
      clear hb2 hc HF HR HB
      by_cases hf : RSp.fields p = []
      · have HL2 := Lib.hid (Hskip.out hf)
        obtain ⟨Af, cf, rfl⟩ := own_slice hown2
        have h0 : (((RSp.fields p).length : Nat) : Int) = 0 := by rw [hf]; rfl
        have c1 : ((((RSp.fields p).length : Nat) : Int) == 0) = true := by rw [h0]; rfl
        clear hown2 Hskip Htake Hmem hf h0
        generalize (RSp.fields p).length = nf at *
        go_wp2_with fail
        go_roundw
        case rel => exact ⟨k + 1, rs, fv, by omega, by go_num, HR2, HL2, by omega, HB2⟩
        case measure => simp [intOf]; omega
      · obtain ⟨r, hrec, hL2⟩ := Htake.out hf
        have HL2 := Lib.hid hL2
        have Hrec := Lib.hid hrec
        have hf0 : 0 < (RSp.fields p).length := List.length_pos_iff.2 hf
        have hfs : (RSp.fields p).length * 16 ≤ 140737488355328 := by omega
        obtain ⟨g2, c2, rfl, _, _, _, _⟩ := own_form hown2 hf0
        have HRW := Lib.hid (record_ref _ _ _ w2 hown2 hfs Hmem.out)
        have c1 : ((((RSp.fields p).length : Nat) : Int) == 0) = false := by rw [beq_eq_false_iff_ne]; omega
        clear Hskip Htake Hmem hown2 hf hL2 hrec hfl hfs
        generalize (RSp.fields p).length = nf at *
        go_wp2_with fail
        refine HRW.out.mono ?_
        rintro e w3 ⟨hb3, hsaid⟩
        rw [Hrec.out] at hsaid
        obtain ⟨vr, rfl, hvr⟩ := hsaid
        obtain ⟨Ar, cr, rfl⟩ := own_slice hvr
        have hR3 := HR2.out.below hb3
        have hb3' := HB2.out.trans (hb3.mono HB2.out.size)
        obtain ⟨X, hX⟩ : ∃ X, X = Obj.cells #[Value.int IntKind.i64 r.lo, Value.int IntKind.i64 r.hi, Value.slice Ar r.fields.length cr] 56 := ⟨_, rfl⟩
        have hR4 : RecsAt (w3.alloc X) w1.heap.size u5 rs fv := hR3.below ((Below.refl _ _).alloc (Nat.le_refl _) X)
        have hvr4 : (w3.alloc X).ownsRow w1.heap.size 9 1 (Value.slice Ar r.fields.length cr) r.fields.length (strVs r.fields) := (own_base hvr HB2.out.size).alloc X
        have hb4 : Below w1.heap.size w1 (w3.alloc X) := hb3'.alloc hb3'.size X
        have hbytes : (rs.length + 1) * 40 ≤ 140737488355328 := by omega
        rw [hX] at hR4 hvr4 hb4
        have HR4 := Lib.hid hR4
        have Hvr4 := Lib.hid hvr4
        have Hb4 := Lib.hid hb4
        clear hX hR4 hvr4 hb4 hvr hR3 hb3' hb3 HRW HR2 HB2
        go_wp2_with (at_builtin; refine wp_append_lit slRec rfl (.tmp 33) (.tmp 35) rfl w1.heap.size u5 rs.length (recCells rs fv) rfl (by exact HR4.out.row) #[.int .i64 r.lo, .int .i64 r.hi, .slice Ar r.fields.length cr] (by rw [size_new]; rfl) rfl (by simp [Value.oneCell']) hbytes (by exact Hb4.out.size) ?_; intro v5 w5 hown5 hg5; have HR5 := Lib.hid (RecsAt.snoc HR4.out Hvr4.out hown5 hg5); have HB5 := Lib.hid (Hb4.out.grown hg5 Hb4.out.size (fun k hk => (own_lt HR4.out.row k hk).1)); clear hown5 hg5)
        go_roundw
        case rel => exact ⟨k + 1, rs ++ [r], _, by omega, by go_num, HR5, HL2, by simp; omega, HB5⟩
        case measure => simp [intOf]; omega
    · obtain rfl : k = ps.length := by omega
      have hrs := HL.out.done
      have hfin : ParseSaid recs w (.returned (.tuple #[u5, .int .i64 0, .int .i64 0])) wr := by
        subst hrs
        exact ⟨u5, fv, rfl, ⟨HR.out.len, own_base HR.out.row HB1.out.size, fun i r u h1 h2 => own_base (HR.out.fld i r u h1 h2) HB1.out.size⟩, HB1.out.trans (HB.out.mono HB1.out.size)⟩
      clear HR HL HB hrs hlt hk
      go_wp2_with fail
      first
        | (go_ret3; exact hfin)
        | (rw [Exit.noGoto_ret]; go_ret3; exact hfin)
end Go.Proofs.YtchkckfadennhaaGreatDoor

namespace Go.Proofs.YtchkckfadennhaaGreatDoor
open Go.RowKit
set_option linter.unusedVariables false
set_option linter.unusedSimpArgs false

def intsR (l : List Nat) : List Value := l.map fun n => .int .i64 ((n : Nat) : Int)
theorem intsR_snoc (l : List Nat) (n : Nat) : intsR l ++ [.int .i64 n] = intsR (l ++ [n]) := by
  unfold intsR
  rw [List.map_append]
  rfl
theorem slIntR : SlT Tryz.prog 57 3 1 8 := ⟨Tryz.underlying57, by kernel_rfl, by decide, by decide⟩
def PtsRef (l : List Nat) (w : World) (e : Ending) (w' : World) : Prop := ∃ v, e = .returned v ∧ w'.ownsRow w.heap.size 3 1 v l.length (intsR l) ∧ Below w.heap.size w w'
/-- What is still to come of a text's code points. -/
def ptsLeft (cur : Sp.Str) (l : Sp.Str) (k : Nat) : List Nat := if k ≤ l.length then RSp.ptsGo cur (l.drop k) else []
theorem ptsLeft_more {cur l : Sp.Str} {k : Nat} (hk : k < l.length) (h : l[k] ≠ 32) : ptsLeft cur l k = ptsLeft (cur ++ [l[k]]) l (k + 1) := by
  unfold ptsLeft
  rw [if_pos (by omega), if_pos (by omega), List.drop_eq_getElem_cons hk, RSp.ptsGo, if_neg h]
theorem ptsLeft_cut {cur l : Sp.Str} {k : Nat} (hk : k < l.length) (h : l[k] = 32) : ptsLeft cur l k = (Sp.hex cur).toList ++ ptsLeft [] l (k + 1) := by
  unfold ptsLeft
  rw [if_pos (by omega), if_pos (by omega), List.drop_eq_getElem_cons hk, RSp.ptsGo, if_pos h]
theorem ptsLeft_last {cur l : Sp.Str} : ptsLeft cur l l.length = (Sp.hex cur).toList ++ ptsLeft [] l (l.length + 1) := by
  unfold ptsLeft
  rw [if_pos (Nat.le_refl _), if_neg (by omega), List.drop_length, RSp.ptsGo, List.append_nil]
theorem toB_one (x : UInt8) : (⟨#[x]⟩ : ByteArray) = ⟨([x] : Sp.Str).toArray⟩ := rfl
set_option maxRecDepth 100000 in
set_option maxHeartbeats 3200000 in
theorem points_ref (l : Sp.Str) (w : World) (hl : l.length < 1000000) : Calls Tryz.prog 36 #[.string ⟨l.toArray⟩] w (PtsRef (RSp.pts l) w) := by
  obtain ⟨S, hS⟩ : ∃ S : ByteArray, S = ⟨l.toArray⟩ := ⟨_, rfl⟩
  have hsz : (S.size : Int) = (l.length : Int) := by rw [hS, toB_size]
  rw [← hS]
  have HS := Lib.hid hS
  clear hS
  go_enter Tryz.func36, Tryz.ntmps36
  go_wp2_with fail
  go_loopw [3, 4, 5] (fun v c i wr => ∃ (k : Nat) (cur : Sp.Str) (out : List Nat), k ≤ l.length + 1 ∧ i = .int .i64 k ∧ c = .string ⟨cur.toArray⟩ ∧ cur.length ≤ k ∧ Hid (wr.ownsRow w.heap.size 3 1 v out.length (intsR out)) ∧ out.length ≤ k ∧ Hid (RSp.pts l = out ++ ptsLeft cur l k) ∧ Hid (Below w.heap.size w wr)) (fun _ _ i _ => l.length + 1 - (intOf i).toNat)
  case atStart => exact ⟨0, [], [], by omega, rfl, rfl, by simp, (by show _; exact World.ownsRow_nil _ _ _ _), by simp, rfl, Below.refl _ _⟩
  case round =>
    obtain ⟨k, cur, out, hk, rfl, rfl, hcur, HR, ho, HI, HB⟩ := hrel
    by_cases hle : k ≤ l.length
    · have d1 := decide_eq_true (show (k : Int) ≤ (l.length : Int) by omega)
      by_cases hlt : k < l.length
      · have d2 := decide_eq_true (show (k : Int) < (l.length : Int) by omega)
        have hbyte := fun w => run_byte (P := Tryz.prog) w 9 Tryz.underlying9 l k hlt
        have hg : l.getD k 0 = l[k] := by rw [List.getD_eq_getElem?_getD, List.getElem?_eq_getElem hlt]; rfl
        rw [hg, ← HS.out] at hbyte
        have hx : (⟨l.toArray⟩ : ByteArray).extract k (k + 1) = ⟨([l[k]] : Sp.Str).toArray⟩ := by
          rw [toB_ext, List.take_succ_eq_append_getElem hlt, List.drop_append_of_le_length (by rw [List.length_take]; omega), List.drop_eq_nil_of_le (by rw [List.length_take]; omega)]
          rfl
        rw [← HS.out] at hx
        have Hmore := Lib.hid (fun h : l[k] ≠ 32 => (show RSp.pts l = out ++ ptsLeft (cur ++ [l[k]]) l (k + 1) by rw [HI.out, ptsLeft_more hlt h]))
        have Hcut := Lib.hid (fun h : l[k] = 32 => (show RSp.pts l = out ++ ((Sp.hex cur).toList ++ ptsLeft [] l (k + 1)) by rw [HI.out, ptsLeft_cut hlt h]))
        clear HI hg
        generalize l[k] = x at *
        by_cases hb : x = 32
        · have Hh := Lib.hid (Hcut.out hb)
          have c1 : ((x.toNat : Int) != 32) = false := by subst hb; rfl
          clear Hmore Hcut hb hx
          go_wp2_with fail
          cases hh : Sp.hex cur with
          | none =>
            refine (hexr_none hh _).mono ?_
            rintro e w3 ⟨rfl, rfl⟩
            have Hh2 := Lib.hid (show RSp.pts l = out ++ ptsLeft [] l (k + 1) by rw [Hh.out, hh]; rfl)
            clear Hh hh
            go_wp2_with fail
            go_roundw
            case rel => exact ⟨k + 1, [], out, by omega, by go_num, rfl, by simp, HR, by omega, Hh2, HB⟩
            case measure => first | (simp [intOf]; done) | (simp [intOf]; omega)
          | some n =>
            refine (hexr_some hh _).mono ?_
            rintro e w3 ⟨rfl, rfl⟩
            have Hh2 := Lib.hid (show RSp.pts l = (out ++ [n]) ++ ptsLeft [] l (k + 1) by rw [Hh.out, hh, List.append_assoc]; rfl)
            have hbt : (out.length + 1) * 8 ≤ 140737488355328 := by omega
            clear Hh hh
            go_wp2_with (at_builtin; refine wp_append_lit slIntR rfl (.tmp 37) (.tmp 39) rfl w.heap.size _ _ _ rfl (by exact HR.out) #[.int .i64 n] rfl rfl (by simp [Value.oneCell']) (by exact hbt) (by exact HB.out.size) ?_; intro v5 w5 hown5 hg5; have HB5 := Lib.hid (HB.out.grown hg5 HB.out.size (fun k hk => (own_lt HR.out k hk).1)); have HR5 := Lib.hid hown5; clear hg5 hown5)
            go_roundw
            case rel => exact ⟨k + 1, [], out ++ [n], by omega, by go_num, rfl, by simp, (by
              show _
              rw [← intsR_snoc, List.length_append]
              exact HR5.out), by simp; omega, Hh2, HB5⟩
            case measure => first | (simp [intOf]; done) | (simp [intOf]; omega)
        · have Hh := Lib.hid (Hmore.out hb)
          have c1 : ((x.toNat : Int) != 32) = true := by
            have := ne_byte (b := x) (c := 32) hb
            show (!((x.toNat : Int) == ((32 : UInt8).toNat : Int))) = true
            rw [this]
            rfl
          have hadd : (⟨cur.toArray⟩ : ByteArray) ++ ⟨([x] : Sp.Str).toArray⟩ = ⟨(cur ++ [x]).toArray⟩ := toB_add cur [x]
          have hs1 : (⟨cur.toArray⟩ : ByteArray).size = cur.length := toB_size cur
          have hs2 : (⟨([x] : Sp.Str).toArray⟩ : ByteArray).size = 1 := rfl
          have hcl : (cur.length : Int) + 1 ≤ 9223372036854775807 := by omega
          clear Hmore Hcut hb
          generalize (⟨([x] : Sp.Str).toArray⟩ : ByteArray) = X at *
          generalize (⟨cur.toArray⟩ : ByteArray) = C at *
          go_wp2_with fail
          go_roundw
          case rel => exact ⟨k + 1, cur ++ [x], out, by omega, by go_num, by first | rfl | (congr 1), by simp; omega, HR, by omega, Hh, HB⟩
          case measure => first | (simp [intOf]; done) | (simp [intOf]; omega)
      · obtain rfl : k = l.length := by omega
        have d2 := decide_eq_false (show ¬ (l.length : Int) < (l.length : Int) by omega)
        have Hh := Lib.hid (show RSp.pts l = out ++ ((Sp.hex cur).toList ++ ptsLeft [] l (l.length + 1)) by rw [HI.out, ptsLeft_last])
        clear HI
        go_wp2_with fail
        cases hh : Sp.hex cur with
        | none =>
          refine (hexr_none hh _).mono ?_
          rintro e w3 ⟨rfl, rfl⟩
          have Hh2 := Lib.hid (show RSp.pts l = out ++ ptsLeft [] l (l.length + 1) by rw [Hh.out, hh]; rfl)
          clear Hh hh
          go_wp2_with fail
          go_roundw
          case rel => exact ⟨l.length + 1, [], out, by omega, by go_num, rfl, by simp, HR, by omega, Hh2, HB⟩
          case measure => first | (simp [intOf]; done) | (simp [intOf]; omega)
        | some n =>
          refine (hexr_some hh _).mono ?_
          rintro e w3 ⟨rfl, rfl⟩
          have Hh2 := Lib.hid (show RSp.pts l = (out ++ [n]) ++ ptsLeft [] l (l.length + 1) by rw [Hh.out, hh, List.append_assoc]; rfl)
          have hbt : (out.length + 1) * 8 ≤ 140737488355328 := by omega
          clear Hh hh
          go_wp2_with (at_builtin; refine wp_append_lit slIntR rfl (.tmp 37) (.tmp 39) rfl w.heap.size _ _ _ rfl (by exact HR.out) #[.int .i64 n] rfl rfl (by simp [Value.oneCell']) (by exact hbt) (by exact HB.out.size) ?_; intro v5 w5 hown5 hg5; have HB5 := Lib.hid (HB.out.grown hg5 HB.out.size (fun k hk => (own_lt HR.out k hk).1)); have HR5 := Lib.hid hown5; clear hg5 hown5)
          go_roundw
          case rel => exact ⟨l.length + 1, [], out ++ [n], by omega, by go_num, rfl, by simp, (by
            show _
            rw [← intsR_snoc, List.length_append]
            exact HR5.out), by simp; omega, Hh2, HB5⟩
          case measure => first | (simp [intOf]; done) | (simp [intOf]; omega)
    · obtain rfl : k = l.length + 1 := by omega
      have d1 := decide_eq_false (show ¬ (((l.length + 1 : Nat) : Int)) ≤ (l.length : Int) by omega)
      have Hh := Lib.hid (show RSp.pts l = out by
        rw [HI.out]
        unfold ptsLeft
        rw [if_neg (by omega), List.append_nil])
      clear HI
      go_wp2_with fail
      go_ret
      exact ⟨_, rfl, by rw [Hh.out]; exact HR.out, HB.out⟩
set_option maxRecDepth 100000 in
theorem records_ref (l : Sp.Str) (recs : List Rec) (w : World) (hl : l.length < 1000000) (hp : RSp.parse l = some recs) :
    Calls Tryz.prog 35 #[.string ⟨l.toArray⟩] w fun e w' => ∃ v fv, e = .returned v ∧ RecsAt w' w.heap.size v recs fv ∧ Below w.heap.size w w' := by
  have HP := Lib.hid (parse_ref l recs w hl hp)
  clear hp
  go_enter Tryz.func35, Tryz.ntmps35
  go_wp2_with fail
  refine HP.out.mono ?_
  rintro e w1 ⟨v, fv, rfl, hr, hb⟩
  have HR := Lib.hid hr
  have HB := Lib.hid hb
  clear hr hb HP
  go_wp2_with fail
  go_ret
  exact ⟨v, fv, rfl, HR.out, HB.out⟩
end Go.Proofs.YtchkckfadennhaaGreatDoor
