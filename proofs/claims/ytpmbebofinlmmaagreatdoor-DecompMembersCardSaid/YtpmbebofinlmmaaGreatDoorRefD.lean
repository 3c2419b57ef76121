/- rubricatorref07.Full: it tells what decomp.Full tells. -/
import Derived.Test.YtpmbebofinlmmaaGreatDoorRefQ
import Derived.Test.YtpmbebofinlmmaaGreatDoorAppM
import Derived.Test.YtpmbebofinlmmaaGreatDoorFoldB
namespace Go.Proofs.YtpmbebofinlmmaaGreatDoor
open Go.RowKit
set_option linter.unusedVariables false
set_option linter.unusedSimpArgs false

set_option maxRecDepth 100000 in
set_option maxHeartbeats 3200000 in
theorem full_step {w : World} {B b : Nat} {Φ : Files} (hr : RefAt w B b Φ) (hok : FilesOk Φ) (r : Int) (ps : List Int) (hps : partsR Φ r = ps) (D : Int → List Int)
    (hD : ∀ x ∈ ps, ∀ W, Below w.heap.size w W → Calls Tryz.prog 93 #[.pointer (some ⟨b, 0, none⟩), .int .i64 x] W (CloneSaid (D x) W)) (hlen : (ps.flatMap D).length ≤ 1000000000) :
    Calls Tryz.prog 93 #[.pointer (some ⟨b, 0, none⟩), .int .i64 r] w (CloneSaid (dstep ps D r) w) := by
  have HP := Lib.hid (parts_ref hr hok r)
  rw [hps] at HP
  have HD := Lib.hid hD
  have HL := Lib.hid hlen
  clear hr hps hD hlen
  go_enter Tryz.func93, Tryz.ntmps93
  by_cases hs : 44032 ≤ r ∧ r ≤ 55203
  · obtain ⟨n, rfl⟩ : ∃ n : Nat, r = 44032 + (n : Int) := ⟨(r - 44032).toNat, by omega⟩
    have hn : n < 11172 := by omega
    have Hf := Lib.hid (show dstep ps D (44032 + (n : Int)) = sylOf (44032 + (n : Int)) by
      unfold dstep isSyl
      rw [if_pos (by rw [Bool.and_eq_true, decide_eq_true_eq, decide_eq_true_eq]; omega)])
    have d1 : decide (44032 + (n : Int) ≥ 44032) = true := by simp; omega
    have d2 : decide (44032 + (n : Int) ≤ 55203) = true := by simp; omega
    have b0 : IntKind.i64.wrap (44032 + (n : Int) - 44032) = n := by rw [IntKind.wrap_i64]; omega
    have v0 : wrap64 (44032 + (n : Int) - 44032) = n := by unfold wrap64; omega
    have t1 : ((n : Int)).tdiv 588 = (n : Int) / 588 := Int.tdiv_eq_ediv_of_nonneg (by omega)
    have t2 : ((n : Int)).tmod 588 = (n : Int) % 588 := Int.tmod_eq_emod_of_nonneg (by omega)
    have t3 : ((n : Int) % 588).tdiv 28 = (n : Int) % 588 / 28 := Int.tdiv_eq_ediv_of_nonneg (by omega)
    have t4 : ((n : Int)).tmod 28 = (n : Int) % 28 := Int.tmod_eq_emod_of_nonneg (by omega)
    have e1 : (44032 + (n : Int) - 44032) = n := by omega
    have e2 : (n : Int) / 28 % 21 = (n : Int) % 588 / 28 := by
      have := Nat.mod_mul_right_div_self n 28 21
      have h : ((n % (28 * 21) / 28 : Nat) : Int) = ((n / 28 % 21 : Nat) : Int) := by rw [this]
      exact h.symm
    have Hsyl := Lib.hid (show sylOf (44032 + (n : Int)) = [4352 + (n : Int) / 588, 4449 + (n : Int) % 588 / 28] ++ (if (n : Int) % 28 = 0 then [] else [4519 + (n : Int) % 28]) by
      unfold sylOf
      rw [e1, e2])
    have hqa : 0 ≤ (n : Int) / 588 ∧ (n : Int) / 588 < 20 := by omega
    have hqm : 0 ≤ (n : Int) % 588 ∧ (n : Int) % 588 < 588 := by omega
    have hqc : 0 ≤ (n : Int) % 28 ∧ (n : Int) % 28 < 28 := by omega
    clear hs e1 e2
    generalize (n : Int) / 588 = qa at *
    generalize (n : Int) % 588 = qm at *
    have hqb : 0 ≤ qm / 28 ∧ qm / 28 < 22 := by omega
    generalize qm / 28 = qb at *
    generalize hqce : (n : Int) % 28 = qc at *
    have b1 : IntKind.i64.wrap (4352 + qa) = 4352 + qa := by rw [IntKind.wrap_i64]; omega
    have b2 : IntKind.i64.wrap (4449 + qb) = 4449 + qb := by rw [IntKind.wrap_i64]; omega
    have b3 : IntKind.i64.wrap (4519 + qc) = 4519 + qc := by rw [IntKind.wrap_i64]; omega
    have b4 : IntKind.i64.wrap qa = qa := by rw [IntKind.wrap_i64]; omega
    have b5 : IntKind.i64.wrap qb = qb := by rw [IntKind.wrap_i64]; omega
    have v1 : wrap64 (4352 + qa) = 4352 + qa := by unfold wrap64; omega
    have v2 : wrap64 (4449 + qb) = 4449 + qb := by unfold wrap64; omega
    have v3 : wrap64 (4519 + qc) = 4519 + qc := by unfold wrap64; omega
    have v4 : wrap64 qa = qa := by unfold wrap64; omega
    have v5 : wrap64 qb = qb := by unfold wrap64; omega
    have hb1 := alloc_below w (Obj.cells #[Value.int IntKind.i64 (4352 + qa), Value.int IntKind.i64 (4449 + qb)] 3)
    have hown := own_fresh2 w 3 (Value.int IntKind.i64 (4352 + qa)) (Value.int IntKind.i64 (4449 + qb))
    have HB := Lib.hid hb1
    have HO := Lib.hid hown
    clear hb1 hown hqa hqm hqb hqce
    by_cases hz : qc = 0
    · have z1 : (qc != 0) = false := by rw [hz]; rfl
      rw [if_pos hz, List.append_nil] at Hsyl
      clear hz
      go_wp2_with fail
      go_ret
      refine ⟨_, rfl, ?_, HB.out⟩
      rw [Hf.out, Hsyl.out]
      exact HO.out
    · have z1 : (qc != 0) = true := by rw [bne_iff_ne]; exact hz
      rw [if_neg hz] at Hsyl
      clear hz
      go_upto_region 5 with fail
      generalize w.alloc _ = W1 at *
      go_wp2_with (at_builtin; refine wp_append_lit slIntR rfl (.tmp 30) (.tmp 34) rfl w.heap.size _ 2 _ rfl (by exact HO.out) #[.int .i64 (4519 + qc)] rfl rfl (by simp [Value.oneCell']) (by omega) (by exact HB.out.size) ?_; intro v5 w5 hown5 hg5; have HB5 := Lib.hid (HB.out.grown hg5 HB.out.size (fun k hk => (own_lt HO.out k hk).1)); have HR5 := Lib.hid hown5; clear hg5 hown5)
      go_ret
      refine ⟨_, rfl, ?_, HB5.out⟩
      rw [Hf.out, Hsyl.out]
      exact HR5.out
  · have hns : isSyl r = false := by
      cases hi : isSyl r with
      | false => rfl
      | true =>
        unfold isSyl at hi
        rw [Bool.and_eq_true, decide_eq_true_eq, decide_eq_true_eq] at hi
        exact absurd hi hs
    have Hd := Lib.hid (show dstep ps D r = if ps = [] then [r] else ps.flatMap D by unfold dstep; rw [hns, if_neg (by decide)])
    clear hns
    go_upto_region 7 with fail
    all_goals first | (exfalso; (try simp only [decide_eq_true_eq, decide_eq_false_iff_not] at *); omega) | skip
    all_goals
      go_wp2_with fail
      refine HP.out.mono ?_
      rintro e w1 ⟨v1, rfl, hv1, hb1⟩
      have hpl := own_len hv1
      unfold maxLen at hpl
      obtain ⟨A1, c1, rfl⟩ := own_slice hv1
      have HV := Lib.hid hv1
      have HB := Lib.hid hb1
      clear hv1 hb1
      by_cases hnil : ps = []
      · have Hf := Lib.hid (show dstep ps D r = [r] by rw [Hd.out, if_pos hnil])
        have l0 : ((ps.length : Int) == 0) = true := by rw [hnil]; rfl
        have hba := alloc_below w1 (Obj.cells #[Value.int IntKind.i64 r] 3)
        have HO := Lib.hid (own_base (own_fresh1 w1 3 (Value.int .i64 r)) HB.out.size)
        have HBa := Lib.hid (HB.out.trans (hba.mono HB.out.size))
        clear hba Hd
        go_wp2_with fail
        go_ret
        refine ⟨_, rfl, ?_, HBa.out⟩
        rw [Hf.out]
        exact HO.out
      · have Hf := Lib.hid (show dstep ps D r = ps.flatMap D by rw [Hd.out, if_neg hnil])
        have hpos : 0 < ps.length := List.length_pos_iff.2 hnil
        have l0 : ((ps.length : Int) == 0) = false := by rw [beq_eq_false_iff_ne]; omega
        obtain ⟨g1, k1, e, hg1, hg2, _, _⟩ := own_form HV.out hpos
        injection e with e1 e2 e3
        subst e1 e3
        clear Hd hnil
        go_wp2_with fail
        go_loopw [8, 47] (fun v i wr => ∃ k : Nat, k ≤ ps.length ∧ i = .int .i64 k ∧ Hid (wr.ownsRow w1.heap.size 3 1 v ((ps.take k).flatMap D).length (intz ((ps.take k).flatMap D))) ∧ Hid (Below w1.heap.size w1 wr)) (fun _ i _ => ps.length - (intOf i).toNat)
        case atStart => exact ⟨0, by omega, rfl, World.ownsRow_nil _ _ _ _, Below.refl _ _⟩
        case round =>
          obtain ⟨k, hk, rfl, HR, HBr⟩ := hrel
          by_cases hlt : k < ps.length
          · obtain ⟨x, hx⟩ : ∃ x, x = ps[k] := ⟨_, rfl⟩
            have hxm : x ∈ ps := by rw [hx]; exact List.getElem_mem _
            have cx : wr.cell? ⟨g1, k, none⟩ = some (.int .i64 x) := (HBr.out.cell (p := ⟨_, _, _⟩) hg2).trans (own_cell HV.out k _ (by unfold intz; rw [List.getElem?_map, List.getElem?_eq_getElem hlt, hx]; rfl))
            have HBw := Lib.hid (HB.out.trans (HBr.out.mono HB.out.size))
            have HC := Lib.hid (HD.out x hxm wr HBw.out)
            have Htk := Lib.hid (show (ps.take (k + 1)).flatMap D = (ps.take k).flatMap D ++ D x by rw [List.take_succ_eq_append_getElem hlt, List.flatMap_append, ← hx]; simp)
            have Hle := Lib.hid (show ((ps.take k).flatMap D).length + (D x).length ≤ 1000000000 by
              have h1 : ((ps.take (k + 1)).flatMap D).length ≤ (ps.flatMap D).length := by
                conv => rhs; rw [← List.take_append_drop (k + 1) ps, List.flatMap_append, List.length_append]
                omega
              rw [Htk.out, List.length_append] at h1
              have := HL.out
              omega)
            clear hx hxm
            generalize hdx : D x = dx at *
            generalize hdo : (ps.take k).flatMap D = out at *
            go_wp2_with fail
            refine HC.out.mono ?_
            rintro e w4 ⟨v4, rfl, hv4, hb4⟩
            obtain ⟨A4, c4, rfl⟩ := own_slice hv4
            have hbt : (out.length + dx.length) * 8 ≤ 140737488355328 := by have := Hle.out; omega
            have HR4 := Lib.hid (own_below HR.out hb4)
            have HB4 := Lib.hid (HBr.out.trans (hb4.mono HBr.out.size))
            have HN := Lib.hid (own_news hv4)
            have H4n := Lib.hid (show A4 = none → dx.length = 0 ∧ c4 = 0 by
              intro e
              rcases hv4.2 with ⟨h, h'⟩ | ⟨g', cap', cur, h, _⟩
              · injection h with _ _ h3
                exact ⟨h', h3⟩
              · rw [e] at h; injection h with h _ _; cases h)
            clear hv4 hb4 HC cx HR
            go_wp2_with (at_builtin; refine wp_append_more w4 slIntR rfl (.tmp 51) (.tmp 54) rfl w1.heap.size _ out.length _ rfl (by exact HR4.out) A4 dx.length c4 (intz dx) rfl H4n.out (by simp [intz]) HN.out (by intro u hu; unfold intz at hu; obtain ⟨_, _, rfl⟩ := List.mem_map.1 hu; rfl) (by exact hbt) HB4.out.size ?_; intro v5 w5 hown5 hg5; have HB5 := Lib.hid (HB4.out.grown hg5 HB4.out.size (fun k hk => (own_lt HR4.out k hk).1)); have HR5 := Lib.hid hown5; clear hg5 hown5)
            go_roundw
            case rel => exact ⟨k + 1, by omega, by go_num, by
              show World.ownsRow _ _ _ _ _ _ _
              rw [Htk.out, List.length_append]
              unfold intz
              rw [List.map_append]
              exact HR5.out, HB5⟩
            case measure => simp [intOf]; omega
          · have hkl : k = ps.length := by omega
            subst hkl
            have HBw := Lib.hid (HB.out.trans (HBr.out.mono HB.out.size))
            go_wp2_with fail
            go_ret
            refine ⟨_, rfl, ?_, HBw.out⟩
            rw [Hf.out]
            have := own_base HR.out HB.out.size
            rw [List.take_length] at this
            exact this
theorem dcap_four : ∀ k, k ≤ 4 → dcap k ≤ 200000
  | 0, _ => by decide
  | 1, _ => by decide
  | 2, _ => by decide
  | 3, _ => by decide
  | 4, _ => by decide
  | k + 5, h => by omega
theorem full07_levels {Φ : Files} (hok : FilesOk Φ) (hps : ∀ r, partsR Φ r = partz Φ r) (hsh : shortB Φ.dec = true) : ∀ (k : Nat), k ≤ 4 → ∀ (r : Int), (∀ n : Nat, r = n → (lev Φ.dec k).testBit n = false) → ∀ (w : World) (B b : Nat), RefAt w B b Φ →
    Calls Tryz.prog 93 #[.pointer (some ⟨b, 0, none⟩), .int .i64 r] w (CloneSaid (dfull (partsOf Φ.dec) k r) w)
  | 0, _, r, hlev, w, B, b, hr => by
    have hn : partsOf Φ.dec r = none := by
      by_cases h : 0 ≤ r
      · obtain ⟨n, rfl⟩ := Int.eq_ofNat_of_zero_le h
        exact parts_top (hlev n rfl)
      · exact parts_neg r (by omega)
    rw [dfull_base r hn (fun _ => [])]
    have hp : partz Φ r = [] := by unfold partz; rw [hn]; rfl
    refine full_step hr hok r (partz Φ r) (hps r) _ ?_ ?_
    · rw [hp]
      intro x hx
      cases hx
    · rw [hp]
      simp
  | k + 1, hk, r, hlev, w, B, b, hr => by
    rw [dfull_step]
    refine full_step hr hok r (partz Φ r) (hps r) _ ?_ ?_
    · intro x hx W hb
      have hx' := hx
      unfold partz at hx'
      obtain ⟨m, hm, rfl⟩ := List.mem_map.1 hx'
      refine full07_levels hok hps hsh k (by omega) m ?_ W B b (hr.below hb)
      rintro n hn
      obtain rfl : m = n := by omega
      cases hP : partsOf Φ.dec r with
      | none => rw [hP] at hm; cases hm
      | some l =>
        rw [hP] at hm
        by_cases h : 0 ≤ r
        · obtain ⟨q, rfl⟩ := Int.eq_ofNat_of_zero_le h
          exact parts_next (hlev q rfl) hP m hm
        · rw [parts_neg r (by omega)] at hP
          cases hP
    · have h1 : ∀ l : List Int, (l.flatMap (dfull (partsOf Φ.dec) k)).length ≤ l.length * 600000 := by
        intro l
        induction l with
        | nil => simp
        | cons x l ih =>
          have h2 := dfull_len (partsOf Φ.dec) k x
          have h3 := dcost_le hsh k x
          have h4 := dcap_four k (by omega)
          rw [List.flatMap_cons, List.length_append, List.length_cons]
          omega
      have h2 := h1 (partz Φ r)
      have h3 : (partz Φ r).length ≤ 20 := by
        unfold partz
        rw [List.length_map]
        cases hP : partsOf Φ.dec r with
        | none => simp
        | some l =>
          obtain ⟨x, hx, _, _, rfl⟩ := parts_rec hP
          have := List.all_eq_true.1 hsh x hx
          simpa using this
      omega
theorem full07_walk {Φ : Files} (hok : FilesOk Φ) (hps : ∀ r, partsR Φ r = partz Φ r) (hsh : shortB Φ.dec = true) (h0 : lev Φ.dec 4 = 0) (r : Int) {w : World} {B b : Nat} (hr : RefAt w B b Φ) :
    Calls Tryz.prog 93 #[.pointer (some ⟨b, 0, none⟩), .int .i64 r] w (CloneSaid (dall (partsOf Φ.dec) r) w) := by
  have e : dall (partsOf Φ.dec) r = dfull (partsOf Φ.dec) 4 r := by
    unfold dall
    by_cases h : 0 ≤ r
    · obtain ⟨n, rfl⟩ := Int.eq_ofNat_of_zero_le h
      exact (dfull_more 4 n (by rw [h0]; exact Nat.zero_testBit n)).1
    · rw [dfull_succ, dfull_succ, parts_neg r (by omega)]
  rw [e]
  exact full07_levels hok hps hsh 4 (Nat.le_refl _) r (fun n _ => by rw [h0]; exact Nat.zero_testBit n) w B b hr
end Go.Proofs.YtpmbebofinlmmaaGreatDoor
