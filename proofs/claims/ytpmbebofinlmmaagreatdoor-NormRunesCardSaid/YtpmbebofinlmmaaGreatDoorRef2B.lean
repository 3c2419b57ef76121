/- rubricatorref02: cut, fields, Hex. -/
import Derived.Test.YtpmbebofinlmmaaGreatDoorRef2A
namespace Go.Proofs.YtpmbebofinlmmaaGreatDoor
open Go.RowKit
set_option linter.unusedVariables false
set_option linter.unusedSimpArgs false

theorem toBl' (a : Sp.Str) : (⟨a.toArray⟩ : ByteArray).toList = a := by rw [ByteArray.toList_eq]
def CutSaid (ls : List Sp.Str) (w : World) (e : Ending) (w' : World) : Prop := ∃ v, e = .returned v ∧ w'.ownsRow w.heap.size 9 1 v ls.length (strVs ls) ∧ Below w.heap.size w w'
theorem piece_take {l : Sp.Str} {a k : Nat} (ha : a ≤ k) (hk : k < l.length) : (l.take (k + 1)).drop a = (l.take k).drop a ++ [l[k]] := by
  rw [List.take_succ_eq_append_getElem hk, List.drop_append_of_le_length (by rw [List.length_take]; omega)]
theorem strVs_snoc (ls : List Sp.Str) (p : Sp.Str) : strVs ls ++ [.string ⟨p.toArray⟩] = strVs (ls ++ [p]) := by
  unfold strVs
  rw [List.map_append]
  rfl
set_option maxRecDepth 100000 in
set_option maxHeartbeats 1600000 in
theorem cut_ref (l : Sp.Str) (b : UInt8) (w : World) (hl : l.length < 1000000) : Calls Tryz.prog 139 #[.string ⟨l.toArray⟩, .int .u8 b.toNat] w (CutSaid (RSp.cut l b) w) := by
  obtain ⟨S, hS⟩ : ∃ S : ByteArray, S = ⟨l.toArray⟩ := ⟨_, rfl⟩
  have hsz : (S.size : Int) = (l.length : Int) := by rw [hS, toB_size]
  have hszn : S.size = l.length := by rw [hS, toB_size]
  rw [← hS]
  have HS := Lib.hid hS
  clear hS
  go_enter Tryz.func139, Tryz.ntmps139
  go_wp2_with fail
  go_loopw [5, 6, 7] (fun v at' i wr => ∃ (k a : Nat) (outs : List Sp.Str), k ≤ l.length ∧ a ≤ k ∧ i = .int .i64 k ∧ at' = .int .i64 a ∧ Hid (wr.ownsRow w.heap.size 9 1 v outs.length (strVs outs)) ∧ outs.length ≤ k ∧ Hid (RSp.cut l b = outs ++ RSp.cutGo b ((l.take k).drop a) (l.drop k)) ∧ Hid (Below w.heap.size w wr)) (fun _ _ i _ => l.length - (intOf i).toNat)
  case atStart => exact ⟨0, 0, [], by omega, by omega, rfl, rfl, (by show _; exact World.ownsRow_nil _ _ _ _), by simp, rfl, Below.refl _ _⟩
  case round =>
    obtain ⟨k, a, outs, hk, ha, rfl, rfl, HR, ho, HI, HB⟩ := hrel
    by_cases hlt : k < l.length
    · have hbyte := fun w => run_byte (P := Tryz.prog) w 9 Tryz.underlying9 l k hlt
      have hg : l.getD k 0 = l[k] := by rw [List.getD_eq_getElem?_getD, List.getElem?_eq_getElem hlt]; rfl
      have hd : l.drop k = l[k] :: l.drop (k + 1) := List.drop_eq_getElem_cons hlt
      have hpt := piece_take ha hlt
      have hx : (⟨l.toArray⟩ : ByteArray).extract a k = ⟨((l.take k).drop a).toArray⟩ := toB_ext l a k
      rw [hg, ← HS.out] at hbyte
      rw [← HS.out] at hx
      have Hhit := Lib.hid (fun h : l[k] = b => (show RSp.cut l b = (outs ++ [(l.take k).drop a]) ++ RSp.cutGo b ((l.take (k + 1)).drop (k + 1)) (l.drop (k + 1)) by
        rw [HI.out, hd, RSp.cut_hit h, show (l.take (k + 1)).drop (k + 1) = [] from List.drop_eq_nil_of_le (by rw [List.length_take]; omega)]))
      have Hmiss := Lib.hid (fun h : l[k] ≠ b => (show RSp.cut l b = outs ++ RSp.cutGo b ((l.take (k + 1)).drop a) (l.drop (k + 1)) by
        rw [HI.out, hd, RSp.cut_miss h, hpt]))
      clear HI hg hd hpt
      generalize l[k] = x at *
      by_cases hb : x = b
      · have Hh := Lib.hid (Hhit.out hb)
        have c1 : ((x.toNat : Int) == (b.toNat : Int)) = true := by rw [hb]; exact beq_self_eq_true _
        clear Hhit Hmiss hb
        generalize (l.take k).drop a = pc at *
        have hbt : (outs.length + 1) * 16 ≤ 140737488355328 := by omega
        go_wp2_with (at_builtin; refine wp_append_lit slStr rfl (.tmp 19) (.tmp 24) rfl w.heap.size _ _ _ rfl (by exact HR.out) #[.string ⟨pc.toArray⟩] rfl rfl (by simp [Value.oneCell']) (by exact hbt) (by exact HB.out.size) ?_; intro v5 w5 hown5 hg5; have HB5 := Lib.hid (HB.out.grown hg5 HB.out.size (fun k hk => (own_lt HR.out k hk).1)); have HR5 := Lib.hid hown5; clear hg5 hown5)
        go_roundw
        case rel => exact ⟨k + 1, k + 1, outs ++ [pc], by omega, by omega, by go_num, by go_num, (by
          show _
          rw [← strVs_snoc, List.length_append]
          exact HR5.out), by simp; omega, Hh, HB5⟩
        case measure => simp [intOf]; omega
      · have Hh := Lib.hid (Hmiss.out hb)
        have c1 : ((x.toNat : Int) == (b.toNat : Int)) = false := ne_byte hb
        clear Hhit Hmiss hb hx
        go_wp2_with fail
        go_roundw
        case rel => exact ⟨k + 1, a, outs, by omega, by omega, by go_num, rfl, HR, by omega, Hh, HB⟩
        case measure => simp [intOf]; omega
    · obtain rfl : k = l.length := by omega
      have hx : (⟨l.toArray⟩ : ByteArray).extract a (⟨l.toArray⟩ : ByteArray).size = ⟨(l.drop a).toArray⟩ := by rw [toB_ext, toB_size, List.take_length]
      rw [← HS.out] at hx
      have hx' : S.extract a l.length = ⟨(l.drop a).toArray⟩ := by rw [← hszn]; exact hx
      have Hh := Lib.hid (show RSp.cut l b = outs ++ [l.drop a] by rw [HI.out, List.take_length, List.drop_length]; rfl)
      clear HI
      generalize l.drop a = pc at *
      have hbt : (outs.length + 1) * 16 ≤ 140737488355328 := by omega
      have h2 : (a : Int) ≤ (l.length : Int) := by omega
      go_wp2_with (at_builtin; refine wp_append_lit slStr rfl (.tmp 28) (.tmp 32) rfl w.heap.size _ _ _ rfl (by exact HR.out) #[.string ⟨pc.toArray⟩] rfl rfl (by simp [Value.oneCell']) (by exact hbt) (by exact HB.out.size) ?_; intro v5 w5 hown5 hg5; have HB5 := Lib.hid (HB.out.grown hg5 HB.out.size (fun k hk => (own_lt HR.out k hk).1)); have HR5 := Lib.hid hown5; clear hg5 hown5)
      go_ret
      refine ⟨_, rfl, ?_, HB5.out⟩
      rw [Hh.out, ← strVs_snoc, List.length_append]
      exact HR5.out
theorem row_get {w : World} {base g c : Nat} {ls : List Sp.Str} (h : w.ownsRow base 9 1 (.slice (some ⟨g, 0, none⟩) ls.length c) ls.length (strVs ls)) (k : Nat) (hk : k < ls.length) : w.cell? ⟨g, k, none⟩ = some (.string ⟨ls[k].toArray⟩) :=
  (h.cellAt k (by omega)).trans (by unfold strVs; rw [List.getElem?_map, List.getElem?_eq_getElem hk]; rfl)
theorem toB_empty (l : Sp.Str) : ((⟨l.toArray⟩ : ByteArray).toList == []) = l.isEmpty := by
  rw [show (⟨l.toArray⟩ : ByteArray).toList = l from toBl' l]
  cases l <;> rfl
set_option maxRecDepth 100000 in
set_option maxHeartbeats 1600000 in
theorem fields_ref (l : Sp.Str) (w : World) (hl : l.length < 1000000) : Calls Tryz.prog 140 #[.string ⟨l.toArray⟩] w (CutSaid (RSp.fields l) w) := by
  have hcl := fun w => cut_ref l 35 w hl
  have hne := RSp.cut_ne l 35
  have hmem := fun p hp => (RSp.cut_mem l 35 p hp).1
  have hll := (RSp.line_mem l).1
  have Hf := Lib.hid (show RSp.fields l = if RSp.line l = [] then [] else (RSp.cut (RSp.line l) 59).map RSp.trim from rfl)
  have Hline := Lib.hid (show RSp.line l = RSp.trim ((RSp.cut l 35).headD []) from rfl)
  generalize RSp.cut l 35 = C at *
  cases C with
  | nil => exact absurd rfl hne
  | cons c0 C =>
    have hc0 : c0.length ≤ l.length := hmem c0 List.mem_cons_self
    replace Hline := Lib.hid (show RSp.line l = RSp.trim c0 from Hline.out)
    have HC := Lib.hid hcl
    clear hcl hne hmem
    go_enter Tryz.func140, Tryz.ntmps140
    go_wp2_with fail
    refine (HC.out _).mono ?_
    rintro e w1 ⟨v, rfl, hr, hb1⟩
    obtain ⟨g, cap, rfl, hg1, hg2, _, _⟩ := own_form hr (by simp)
    have hcell : w1.cell? ⟨g, 0, none⟩ = some (.string ⟨c0.toArray⟩) := row_get hr 0 (by simp)
    have hlen : (0 : Int) < (((c0 :: C).length : Nat) : Int) := by simp
    have HB1 := Lib.hid hb1
    clear hr hb1 HC
    generalize (c0 :: C).length = n at *
    go_wp2_with fail
    refine (trim_ref c0 _ (by omega)).mono ?_
    rintro e w1' ⟨rfl, rfl⟩
    rw [← Hline.out]
    generalize RSp.line l = ln at *
    by_cases he : ln = []
    · have Hf2 := Lib.hid (show RSp.fields l = [] by rw [Hf.out, if_pos he])
      have c1 : ((⟨ln.toArray⟩ : ByteArray).toList == []) = true := by rw [toB_empty, he]; rfl
      generalize (⟨ln.toArray⟩ : ByteArray) = S at *
      go_wp2_with fail
      go_ret
      exact ⟨_, rfl, by rw [Hf2.out]; exact World.ownsRow_nil _ _ _ _, HB1.out⟩
    · have Hf2 := Lib.hid (show RSp.fields l = (RSp.cut ln 59).map RSp.trim by rw [Hf.out, if_neg he])
      have c1 : ((⟨ln.toArray⟩ : ByteArray).toList == []) = false := by
        rw [toB_empty]
        cases h : ln with
        | nil => exact absurd h he
        | cons => rfl
      have hcl := fun w => cut_ref ln 59 w (by omega)
      have hpl := RSp.cut_len ln 59
      have hmem := fun p hp => (RSp.cut_mem ln 59 p hp).1
      have hne := RSp.cut_ne ln 59
      have HC := Lib.hid hcl
      have HM := Lib.hid hmem
      generalize RSp.cut ln 59 = ps at *
      clear Hf he hcl hmem hcell
      generalize (⟨ln.toArray⟩ : ByteArray) = S at *
      go_wp2_with fail
      refine (HC.out _).mono ?_
      rintro e w2 ⟨v2, rfl, hr2, hb2⟩
      obtain ⟨g2, cap2, rfl, hg3, hg4, _, _⟩ := own_form hr2 (List.length_pos_iff.2 hne)
      have HR2 := Lib.hid hr2
      have HB2 := Lib.hid (HB1.out.trans (hb2.mono HB1.out.size))
      clear hr2 hb2 HC hne HB1
      go_wp2_with fail
      go_loopw [3, 16] (fun v i wr => ∃ k : Nat, k ≤ ps.length ∧ i = .int .i64 k ∧ Hid (wr.ownsRow w2.heap.size 9 1 v ((ps.take k).map RSp.trim).length (strVs ((ps.take k).map RSp.trim))) ∧ Hid (Below w2.heap.size w2 wr)) (fun _ i _ => ps.length - (intOf i).toNat)
      case atStart => exact ⟨0, by omega, rfl, (by show _; rw [List.take_zero]; exact World.ownsRow_nil _ _ _ _), Below.refl _ _⟩
      case round =>
        obtain ⟨k, hk, rfl, HR, HB⟩ := hrel
        by_cases hlt : k < ps.length
        · have hc : wr.cell? ⟨g2, k, none⟩ = some (.string ⟨ps[k].toArray⟩) := cell_later HB.out (row_get HR2.out k hlt)
          have hpk := HM.out ps[k] (List.getElem_mem _)
          have hsn : (ps.take (k + 1)).map RSp.trim = (ps.take k).map RSp.trim ++ [RSp.trim ps[k]] := by rw [List.take_succ_eq_append_getElem hlt, List.map_append]; rfl
          have hol : ((ps.take k).map RSp.trim).length ≤ k := by rw [List.length_map, List.length_take]; omega
          have Hsn := Lib.hid hsn
          have HT := Lib.hid (fun w => trim_ref ps[k] w (by omega))
          generalize ps[k] = pk at *
          generalize (ps.take k).map RSp.trim = outs at *
          clear hsn
          go_wp2_with fail
          refine (HT.out _).mono ?_
          rintro e w3 ⟨rfl, rfl⟩
          have hbt : (outs.length + 1) * 16 ≤ 140737488355328 := by omega
          generalize RSp.trim pk = pc at *
          clear HT hc hpk
          go_wp2_with (at_builtin; refine wp_append_lit slStr rfl (.tmp 20) (.tmp 23) rfl w2.heap.size _ _ _ rfl (by exact HR.out) #[.string ⟨pc.toArray⟩] rfl rfl (by simp [Value.oneCell']) (by exact hbt) (by exact HB.out.size) ?_; intro v5 w5 hown5 hg5; have HB5 := Lib.hid (HB.out.grown hg5 HB.out.size (fun k hk => (own_lt HR.out k hk).1)); have HR5 := Lib.hid hown5; clear hg5 hown5)
          go_roundw
          case rel => exact ⟨k + 1, by omega, by go_num, (by
            show _
            rw [Hsn.out, ← strVs_snoc, List.length_append]
            exact HR5.out), HB5⟩
          case measure => simp [intOf]; omega
        · obtain rfl : k = ps.length := by omega
          have hfin : CutSaid (RSp.fields l) w (.returned u3) wr := by
            have h1 := HR.out
            rw [List.take_length] at h1
            exact ⟨u3, rfl, by rw [Hf2.out]; exact own_base h1 HB2.out.size, HB2.out.trans (HB.out.mono HB2.out.size)⟩
          clear HR HB
          go_wp2_with fail
          go_ret
          exact hfin
end Go.Proofs.YtpmbebofinlmmaaGreatDoor
