/- rubricatorref11: Is, Simple; rubricatorlaw11.WordSimple answers true. The lemma of the region that draws its order is printed by wip/tools/mkwsim.py. -/
import Derived.Test.YtkgomgfhfoomhaaGreatDoorRefV
import Derived.Test.YtkgomgfhfoomhaaGreatDoorRef6W
import Derived.Test.YtkgomgfhfoomhaaGreatDoorOpenW
import Derived.Test.YtkgomgfhfoomhaaGreatDoorWrdS
import Derived.Test.YtkgomgfhfoomhaaGreatDoorWrdAw
import Derived.Test.YtkgomgfhfoomhaaGreatDoorCatP
import Derived.Deep.DeepCutAuto
namespace Go.Proofs.YtkgomgfhfoomhaaGreatDoor
open Go.RowKit
set_option linter.unusedVariables false
set_option linter.unusedSimpArgs false

theorem isW_or (c : Sp.Str) (h : c ≠ []) : isW c = ((c.take 1 == [76]) || ((c.take 1 == [77]) || ((c == [78, 108]) || ((c == [78, 100]) || (c == [80, 99]))))) := by
  obtain ⟨x, l, rfl⟩ := List.exists_cons_of_ne_nil h
  have hp : ∀ k : UInt8, Lib.hasPrefix (x :: l) [k] = ((x :: l).take 1 == [k]) := by
    intro k
    unfold Lib.hasPrefix
    have e : ((x :: l).take 1 == [k]) = (x == k) := by
      cases hk : (x == k) with
      | true => rw [beq_iff_eq] at hk; subst hk; simp
      | false =>
        rw [beq_eq_false_iff_ne] at hk ⊢
        intro h
        simp at h
        exact hk h
    rw [e]
    show ((k == x) && ([] : Sp.Str).isPrefixOf l) = (x == k)
    cases hk : (x == k) with
    | true => rw [beq_iff_eq] at hk; subst hk; simp
    | false =>
      rw [beq_eq_false_iff_ne] at hk
      rw [beq_eq_false_iff_ne.2 (fun h => hk h.symm), Bool.false_and]
  have hc : Lib.containsS [⟨#[78, 108]⟩, ⟨#[78, 100]⟩, ⟨#[80, 99]⟩] ⟨(x :: l).toArray⟩ = (((x :: l) == [78, 108]) || (((x :: l) == [78, 100]) || ((x :: l) == [80, 99]))) := by
    have inj : ∀ s : Sp.Str, ((⟨(x :: l).toArray⟩ : ByteArray) = ⟨s.toArray⟩) ↔ (x :: l) = s := by
      intro s
      constructor
      · intro h
        have := congrArg ByteArray.toList h
        exact (toBl (x :: l)).symm.trans (this.trans (toBl s))
      · intro h
        rw [h]
    rw [Bool.eq_iff_iff, Lib.containsS_iff]
    simp only [List.mem_cons, List.not_mem_nil, or_false, Bool.or_eq_true, beq_iff_eq]
    rw [inj [78, 108], inj [78, 100], inj [80, 99]]
  unfold isW
  rw [hp, hp, hc, Bool.or_assoc]
set_option maxRecDepth 100000 in
set_option maxHeartbeats 1600000 in
theorem is11_walk {w : World} {B b : Nat} {Φ : Files} (hr : RefAt w B b Φ) (hok : FilesOk Φ) (hne : ∀ r : Int, txOf Φ.cat r [67, 110] ≠ []) (r : Int) :
    Calls Tryz.prog 36 #[.pointer (some ⟨b, 0, none⟩), .int .i64 r] w fun e w' => e = .returned (.bool (isW (txOf Φ.cat r [67, 110]))) ∧ Below w.heap.size w w' := by
  have HC := Lib.hid (category_ref hr hok r)
  have hn := hne r
  clear hr hne
  generalize txOf Φ.cat r [67, 110] = c at *
  have He := Lib.hid (isW_or c hn)
  have hup := fun w => run_upto (P := Tryz.prog) w 9 Tryz.underlying9 c 1 (List.length_pos_iff.2 hn)
  obtain ⟨S, hS⟩ : ∃ S : ByteArray, S = ⟨c.toArray⟩ := ⟨_, rfl⟩
  obtain ⟨T, hT⟩ : ∃ T : ByteArray, T = ⟨(c.take 1).toArray⟩ := ⟨_, rfl⟩
  have hSl : S.toList = c := by rw [hS]; exact toBl _
  have hTl : T.toList = c.take 1 := by rw [hT]; exact toBl _
  rw [← hS] at HC
  rw [← hS, ← hT] at hup
  have hup2 : ∀ w, Sem.run Tryz.prog (Instr.slice 9 (.string S) none (some (.int .i64 1)) none) w = .ok (.string T) w := hup
  rw [← hTl, ← hSl] at He
  have Hpost := Lib.hid (show isW c = isW S.toList by rw [hSl])
  rw [hSl, ← Hpost.out] at Hpost
  clear hup hS hT hn
  obtain ⟨x, Hx⟩ : ∃ x, Hid (x = isW c) := ⟨_, rfl⟩
  rw [← Hx.out]
  have Hxe := Lib.hid (show x = ((T.toList == [76]) || ((T.toList == [77]) || ((S.toList == [78, 108]) || ((S.toList == [78, 100]) || (S.toList == [80, 99]))))) by rw [Hx.out, ← He.out, hSl])
  clear He Hpost Hx hSl hTl
  go_enter Tryz.func36, Tryz.ntmps36
  go_wp2_with fail
  refine HC.out.mono ?_
  rintro e w1 ⟨rfl, hb1⟩
  have HB := Lib.hid hb1
  clear hb1 HC
  cases q1 : (T.toList == [76])
  · skip
    cases q2 : (T.toList == [77])
    · skip
      cases q3 : (S.toList == [78, 108])
      · skip
        cases q4 : (S.toList == [78, 100])
        · skip
          cases q5 : (S.toList == [80, 99])
          · skip
            have Hf := Lib.hid (show x = false by rw [Hxe.out, q1, q2, q3, q4, q5]; rfl)
            clear Hxe
            go_wp2_with fail
            go_ret
            exact ⟨by rw [Hf.out]; first | done | rfl, HB.out⟩
          · skip
            have Hf := Lib.hid (show x = true by rw [Hxe.out, q1, q2, q3, q4, q5]; rfl)
            clear Hxe
            go_wp2_with fail
            go_ret
            exact ⟨by rw [Hf.out]; first | done | rfl, HB.out⟩
        · skip
          have Hf := Lib.hid (show x = true by rw [Hxe.out, q1, q2, q3, q4]; rfl)
          clear Hxe
          go_wp2_with fail
          go_ret
          exact ⟨by rw [Hf.out]; first | done | rfl, HB.out⟩
      · skip
        have Hf := Lib.hid (show x = true by rw [Hxe.out, q1, q2, q3]; rfl)
        clear Hxe
        go_wp2_with fail
        go_ret
        exact ⟨by rw [Hf.out]; first | done | rfl, HB.out⟩
    · skip
      have Hf := Lib.hid (show x = true by rw [Hxe.out, q1, q2]; rfl)
      clear Hxe
      go_wp2_with fail
      go_ret
      exact ⟨by rw [Hf.out]; first | done | rfl, HB.out⟩
  · skip
    have Hf := Lib.hid (show x = true by rw [Hxe.out, q1]; rfl)
    clear Hxe
    go_wp2_with fail
    go_ret
    exact ⟨by rw [Hf.out]; first | done | rfl, HB.out⟩
set_option maxRecDepth 100000 in
set_option maxHeartbeats 1600000 in
theorem simple11_walk {w : World} {B b : Nat} {Φ : Files} {zs : List Int} {v : Value} (hr : RefAt w B b Φ) (hok : FilesOk Φ) (hne : ∀ r : Int, txOf Φ.cat r [67, 110] ≠ []) (hl : ListAt w v zs) (p : Int) (hp : (Lit.int .i64 p).wf = true) :
    Calls Tryz.prog 34 #[.pointer (some ⟨b, 0, none⟩), v, .int .i64 p] w fun e w' => e = .returned (.bool (simpleW (fun r => txOf Φ.cat r [67, 110]) zs p)) ∧ Below w.heap.size w w' := by
  have HS := Lib.hid (show KSt w w B b Φ zs v from ⟨Below.refl _ _, hr, hl⟩)
  obtain ⟨A0, c0, rfl, hn, hz⟩ := hl
  clear hr hz
  go_enter Tryz.func34, Tryz.ntmps34
  by_cases hout : p < 0 ∨ (zs.length : Int) < p
  · have He := Lib.hid (show simpleW (fun r => txOf Φ.cat r [67, 110]) zs p = false by
      unfold simpleW
      rcases hout with h | h
      · rw [decide_eq_false (show ¬ 0 ≤ p by omega), Bool.false_and, Bool.false_and]
      · rw [decide_eq_false (show ¬ p ≤ (zs.length : Int) by omega), Bool.and_false, Bool.false_and])
    go_wp2_with fail
    all_goals
      first
        | (go_ret; refine ⟨?_, HS.out.bel⟩; rw [He.out]; rfl)
        | (exfalso; (try simp only [beq_eq_false_iff_ne, beq_iff_eq, ne_eq, decide_eq_false_iff_not, decide_eq_true_eq] at *); omega)
  have g2 : decide (p < 0) = false := by simp; omega
  have g3 : decide (p > (zs.length : Int)) = false := by simp; omega
  obtain ⟨j, rfl⟩ := Int.eq_ofNat_of_zero_le (show 0 ≤ p by omega)
  have hj : j ≤ zs.length := by omega
  have He := Lib.hid (show simpleW (fun r => txOf Φ.cat r [67, 110]) zs (j : Int) = (inW (fun r => txOf Φ.cat r [67, 110]) zs ((j : Int) - 1) != inW (fun r => txOf Φ.cat r [67, 110]) zs (j : Int)) by
    unfold simpleW
    rw [decide_eq_true (show 0 ≤ (j : Int) by omega), decide_eq_true (show (j : Int) ≤ (zs.length : Int) by omega)]
    rfl)
  have HI := Lib.hid (fun (i : Nat) (hi : i < zs.length) => (show inW (fun r => txOf Φ.cat r [67, 110]) zs (i : Int) = isW (txOf Φ.cat (zs.getD i 0) [67, 110]) by
    unfold inW
    rw [decide_eq_true (show 0 ≤ (i : Int) by omega), decide_eq_true (show (i : Int) < (zs.length : Int) by omega)]
    rfl))
  have HN := Lib.hid (fun (i : Int) (hi : i < 0 ∨ (zs.length : Int) ≤ i) => (show inW (fun r => txOf Φ.cat r [67, 110]) zs i = false by
    unfold inW
    rcases hi with h | h
    · rw [decide_eq_false (show ¬ 0 ≤ i by omega), Bool.false_and, Bool.false_and]
    · rw [decide_eq_false (show ¬ i < (zs.length : Int) by omega), Bool.and_false, Bool.false_and]))
  clear hout hp
  go_upto_region 3 with fail
  go_cut [7] (fun c wx => c = .bool (inW (fun r => txOf Φ.cat r [67, 110]) zs ((j : Int) - 1)) ∧ KSt w wx B b Φ zs (.slice A0 zs.length c0))
  case first =>
    by_cases h0 : 0 < j
    · have d0 : decide ((j : Int) > 0) = true := by simp; omega
      have n0 : decide (0 < j) = true := decide_eq_true h0
      obtain ⟨i, hi⟩ : ∃ i : Nat, j = i + 1 := ⟨j - 1, by omega⟩
      have hil : i < zs.length := by omega
      obtain ⟨ad, rfl, k0⟩ := HS.out.list.cellN i hil
      have a1 : IntKind.i64.wrap ((j : Int) - 1) = i := by rw [IntKind.wrap_i64]; omega
      have a2 : wrap64 ((j : Int) - 1) = i := by unfold wrap64; omega
      have Hv := Lib.hid (show inW (fun r => txOf Φ.cat r [67, 110]) zs ((j : Int) - 1) = isW (txOf Φ.cat (zs.getD i 0) [67, 110]) by rw [show (j : Int) - 1 = (i : Int) by omega]; exact HI.out i hil)
      generalize zs.getD i 0 = z at *
      clear hi h0
      go_wp2_with fail
      refine (is11_walk HS.out.ref hok hne z).mono ?_
      rintro e w_ ⟨rfl, hb_⟩
      replace HS := Lib.hid (HS.out.next hb_)
      clear hb_
      go_wp2_with fail
      go_meet
      case rel => exact ⟨by rw [Hv.out], HS.out⟩
    · have d0 : decide ((j : Int) > 0) = false := by simp; omega
      have n0 : decide (0 < j) = false := decide_eq_false h0
      go_wp2_with fail
      go_meet
      case rel => exact ⟨by rw [HN.out ((j : Int) - 1) (by omega)], HS.out⟩
  case rest =>
  obtain ⟨rfl, hs_⟩ := hcut
  replace HS := Lib.hid hs_
  clear hs_
  go_upto_region 4 with fail
  go_cut [8] (fun c wx => c = .bool (inW (fun r => txOf Φ.cat r [67, 110]) zs (j : Int)) ∧ KSt w wx B b Φ zs (.slice A0 zs.length c0))
  case first =>
    by_cases h0 : j < zs.length
    · have d0 : decide ((j : Int) < (zs.length : Int)) = true := by simp; omega
      have n0 : decide (j < zs.length) = true := decide_eq_true h0
      obtain ⟨ad, rfl, k0⟩ := HS.out.list.cellN j h0
      have Hv := Lib.hid (HI.out j h0)
      generalize zs.getD j 0 = z at *
      go_wp2_with fail
      refine (is11_walk HS.out.ref hok hne z).mono ?_
      rintro e w_ ⟨rfl, hb_⟩
      replace HS := Lib.hid (HS.out.next hb_)
      clear hb_
      go_wp2_with fail
      go_meet
      case rel => exact ⟨by rw [Hv.out], HS.out⟩
    · have d0 : decide ((j : Int) < (zs.length : Int)) = false := by simp; omega
      have n0 : decide (j < zs.length) = false := decide_eq_false h0
      go_wp2_with fail
      go_meet
      case rel => exact ⟨by rw [HN.out (j : Int) (by omega)], HS.out⟩
  case rest =>
  obtain ⟨rfl, hs_⟩ := hcut
  replace HS := Lib.hid hs_
  clear hs_
  go_wp2_with fail
  go_ret
  exact ⟨by rw [He.out]; first | done | rfl, HS.out.bel⟩

abbrev dsWS : List (Option Tmp) := [some 29, some 30, some 31, some 32, some 33, some 34, some 35, some 36, some 37, some 38, some 39, some 40, some 41, some 42, some 43, some 44, some 45, some 46, some 47, some 48, some 49, some 50, some 51]
abbrev needsWS : List (Nat × Nat) := [(1, 0), (2, 1), (3, 2), (4, 2), (5, 4), (5, 2), (6, 3), (6, 5), (6, 2), (7, 2), (7, 6), (8, 7), (9, 8), (10, 8), (11, 8), (12, 10), (12, 11), (12, 8), (13, 12), (13, 8), (14, 9), (14, 13), (14, 8), (15, 8), (16, 8), (17, 8), (18, 16), (18, 17), (18, 8), (19, 18), (19, 8), (20, 15), (20, 19), (20, 8), (21, 14), (21, 20), (21, 8), (22, 8), (22, 21)]
abbrev opsWS : List Op := [.move (.tmp 5), .binOp .geq 3 (.tmp 29) (.const (.int .i64 0)) 3, .move (.tmp 30), .move (.tmp 5), .move (.tmp 0), .call { callee := .builtin .len, args := #[.tmp 33], argTypes := #[22] }, .binOp .lss 3 (.tmp 32) (.tmp 34) 3, .pick (.tmp 31) (.tmp 35) (.const (.bool false)), .move (.tmp 36), .move (.tmp 3), .move (.tmp 0), .move (.tmp 5), .indexAddr 22 (.tmp 39) (.tmp 40), .load 3 (.tmp 41), .call { callee := .value (.func 35), args := #[.tmp 38, .tmp 42], argTypes := #[23, 3] }, .move (.tmp 4), .move (.tmp 0), .move (.tmp 5), .indexAddr 22 (.tmp 45) (.tmp 46), .load 3 (.tmp 47), .call { callee := .value (.func 36), args := #[.tmp 44, .tmp 48], argTypes := #[25, 3] }, .binOp .neq 4 (.tmp 43) (.tmp 49) 4, .pick (.tmp 37) (.tmp 50) (.const (.bool false))]
abbrev gsWS : List (Option (Nat × Bool)) := [none, none, none, some (2, true), some (2, true), some (2, true), some (2, true), none, none, some (8, true), some (8, true), some (8, true), some (8, true), some (8, true), some (8, true), some (8, true), some (8, true), some (8, true), some (8, true), some (8, true), some (8, true), some (8, true), none]
def relWS (m b B i : Nat) (Φ : Files) (zs : List Int) (ad : Addr) (c : Nat) (z : Int) (g : Bool) : Nat → Value → World → Prop := fun kx vx W => match kx with
  | 0 => vx = .int .i64 (i : Nat)
  | 1 => vx = .bool true
  | 2 => vx = .bool true
  | 3 => vx = .int .i64 (i : Nat)
  | 4 => vx = .slice (some ad) zs.length c
  | 5 => vx = .int .i64 (zs.length : Nat)
  | 6 => vx = .bool true
  | 7 => vx = .bool true
  | 8 => vx = .bool true
  | 9 => vx = .pointer (some ⟨m + 3, 0, none⟩)
  | 10 => vx = .slice (some ad) zs.length c
  | 11 => vx = .int .i64 (i : Nat)
  | 12 => vx = .pointer (some (ad.add i))
  | 13 => vx = .int .i64 z
  | 14 => vx = .bool g
  | 15 => vx = .pointer (some ⟨b, 0, none⟩)
  | 16 => vx = .slice (some ad) zs.length c
  | 17 => vx = .int .i64 (i : Nat)
  | 18 => vx = .pointer (some (ad.add i))
  | 19 => vx = .int .i64 z
  | 20 => vx = .bool g
  | 21 => vx = .bool false
  | 22 => vx = .bool false
  | _ => True
set_option maxHeartbeats 1600000 in
theorem regionWS (a : Act) (ops : Array Oper) (rid : Nat) (Q : Exit → Act → World → Prop) (w : World) (m b B i : Nat) (Φ : Files) (zs : List Int) (ad : Addr) (c : Nat) (z : Int) (g : Bool) (hops : ops.toList.map (·.op) = opsWS) (hgs : ops.toList.map (·.guard) = gsWS) (hok : dagOkG ops dsWS = true) (hnd : needsOk2 ops needsWS = true) (hsz : 52 ≤ a.tmps.size)
    (h0 : a.tmps.getD 0 undef = .slice (some ad) zs.length c)
    (h3 : a.tmps.getD 3 undef = .pointer (some ⟨m + 3, 0, none⟩))
    (h4 : a.tmps.getD 4 undef = .pointer (some ⟨b, 0, none⟩))
    (h5 : a.tmps.getD 5 undef = .int .i64 (i : Nat))
    (htb : TabAt w m Φ) (hr : RefAt w B b Φ) (hfo : FilesOk Φ) (hne : ∀ r : Int, txOf Φ.cat r [67, 110] ≠ []) (hg' : isW (txOf Φ.cat z [67, 110]) = g) (hgg : (g != g) = false) (k0 : w.cell? (ad.add i) = some (.int .i64 z)) (hi : i < zs.length) (hn : zs.length ≤ 9223372036854775807) (d1 : decide ((i : Int) ≥ 0) = true) (d2 : decide ((i : Int) < (zs.length : Int)) = true) (d3 : decide (i < zs.length) = true)
    (hend : ∀ vs W, (fun W => Below w.heap.size w W) W → (∀ j, j < 23 → relWS m b B i Φ zs ad c z g j (vs j) W) → Q .normal { a with tmps := frS (fun j => decide (j < 23)) vs 0 dsWS a.tmps } W) :
    (Code.region rid ops true).wp Tryz.prog Q a w := by
  have hlen : ops.size = 23 := by have := congrArg List.length hops; simpa using this
  have hop : ∀ (i : Nat) (o : Oper), ops[i]? = some o → ∀ x, opsWS[i]? = some x → o.op = x := by
    intro i o ho x hx
    rw [← hops, List.getElem?_map, Array.getElem?_toList, ho] at hx
    simpa using hx
  have hgu : ∀ (i : Nat) (o : Oper), ops[i]? = some o → ∀ x, gsWS[i]? = some x → o.guard = x := by
    intro i o ho x hx
    rw [← hgs, List.getElem?_map, Array.getElem?_toList, ho] at hx
    simpa using hx
  rw [← hlen] at hend
  refine wp_region_rel (by kernel_rfl) dsWS hok (fun t ht => Nat.lt_of_lt_of_le (of_decide_eq_true (List.all_eq_true.1 (show dsWS.all (fun d => match d with | some t => decide (t < 52) | none => true) = true from rfl) _ ht)) hsz) (relWS m b B i Φ zs ad c z g) (fun W => Below w.heap.size w W) ?_ ?_ ?_ hend
  · intro i v W W' h hb
    unfold relWS at h ⊢
    split at h
    · exact h
    · exact h
    · exact h
    · exact h
    · exact h
    · exact h
    · exact h
    · exact h
    · exact h
    · exact h
    · exact h
    · exact h
    · exact h
    · exact h
    · exact h
    · exact h
    · exact h
    · exact h
    · exact h
    · exact h
    · exact h
    · exact h
    · exact h
    · exact h
  · exact ⟨rfl, rfl, rfl, Nat.le_refl _, fun _ _ => rfl⟩
  intro kx o ho ρ W hb hρ hold hold2 hcon hfun _
  have hkx : kx < 23 := by rw [← hlen]; exact (Array.getElem?_eq_some_iff.1 ho).1
  have e0 : ρ (.tmp 0) = .slice (some ad) zs.length c := (hold 0 (by decide)).trans h0
  have e3 : ρ (.tmp 3) = .pointer (some ⟨m + 3, 0, none⟩) := (hold 3 (by decide)).trans h3
  have e4 : ρ (.tmp 4) = .pointer (some ⟨b, 0, none⟩) := (hold 4 (by decide)).trans h4
  have e5 : ρ (.tmp 5) = .int .i64 (i : Nat) := (hold 5 (by decide)).trans h5
  match kx, hkx with
  | 0, _ =>
    have hg := hgu 0 o ho _ rfl
    have ho' := hop 0 o ho _ rfl
    simp only [hg]
    exact .inl ⟨_, rfl, .inl (by unfold execOp; rw [ho']; go_simp)⟩
  | 1, _ =>
    have hg := hgu 1 o ho _ rfl
    have ho' := hop 1 o ho _ rfl
    simp only [hg]
    have q29 : ρ (.tmp 29) = .int .i64 (i : Nat) := hρ 0 (needs2_get hnd 1 0 (by decide)) 29 rfl
    exact .inl ⟨_, rfl, .inl (by unfold execOp; rw [ho']; go_simp)⟩
  | 2, _ =>
    have hg := hgu 2 o ho _ rfl
    have ho' := hop 2 o ho _ rfl
    simp only [hg]
    have q30 : ρ (.tmp 30) = .bool true := hρ 1 (needs2_get hnd 2 1 (by decide)) 30 rfl
    exact .inl ⟨_, rfl, .inl (by unfold execOp; rw [ho']; go_simp)⟩
  | 3, _ =>
    have hg := hgu 3 o ho _ rfl
    have ho' := hop 3 o ho _ rfl
    simp only [hg]
    intro t ht
    obtain rfl : 31 = t := by simpa [dsWS] using ht
    have qg : ρ (.tmp 31) = .bool true := hρ 2 (needs2_get hnd 3 2 (by decide)) 31 rfl
    refine ⟨fun _ => ?_, fun hq => absurd qg hq⟩
    exact .inl ⟨_, rfl, .inl (by unfold execOp; rw [ho']; go_simp)⟩
  | 4, _ =>
    have hg := hgu 4 o ho _ rfl
    have ho' := hop 4 o ho _ rfl
    simp only [hg]
    intro t ht
    obtain rfl : 31 = t := by simpa [dsWS] using ht
    have qg : ρ (.tmp 31) = .bool true := hρ 2 (needs2_get hnd 4 2 (by decide)) 31 rfl
    refine ⟨fun _ => ?_, fun hq => absurd qg hq⟩
    exact .inl ⟨_, rfl, .inl (by unfold execOp; rw [ho']; go_simp)⟩
  | 5, _ =>
    have hg := hgu 5 o ho _ rfl
    have ho' := hop 5 o ho _ rfl
    simp only [hg]
    have q33 : ρ (.tmp 33) = .slice (some ad) zs.length c := hρ 4 (needs2_get hnd 5 4 (by decide)) 33 rfl
    intro t ht
    obtain rfl : 31 = t := by simpa [dsWS] using ht
    have qg : ρ (.tmp 31) = .bool true := hρ 2 (needs2_get hnd 5 2 (by decide)) 31 rfl
    refine ⟨fun _ => ?_, fun hq => absurd qg hq⟩
    exact .inl ⟨_, rfl, .inl (by unfold execOp; rw [ho']; go_simp)⟩
  | 6, _ =>
    have hg := hgu 6 o ho _ rfl
    have ho' := hop 6 o ho _ rfl
    simp only [hg]
    have q32 : ρ (.tmp 32) = .int .i64 (i : Nat) := hρ 3 (needs2_get hnd 6 3 (by decide)) 32 rfl
    have q34 : ρ (.tmp 34) = .int .i64 (zs.length : Nat) := hρ 5 (needs2_get hnd 6 5 (by decide)) 34 rfl
    intro t ht
    obtain rfl : 31 = t := by simpa [dsWS] using ht
    have qg : ρ (.tmp 31) = .bool true := hρ 2 (needs2_get hnd 6 2 (by decide)) 31 rfl
    refine ⟨fun _ => ?_, fun hq => absurd qg hq⟩
    exact .inl ⟨_, rfl, .inl (by unfold execOp; rw [ho']; go_simp)⟩
  | 7, _ =>
    have hg := hgu 7 o ho _ rfl
    have ho' := hop 7 o ho _ rfl
    simp only [hg]
    have q31 : ρ (.tmp 31) = .bool true := hρ 2 (needs2_get hnd 7 2 (by decide)) 31 rfl
    have q35 : ρ (.tmp 35) = .bool true := hρ 6 (needs2_get hnd 7 6 (by decide)) 35 rfl
    exact .inl ⟨_, rfl, .inl (by unfold execOp; rw [ho']; go_simp)⟩
  | 8, _ =>
    have hg := hgu 8 o ho _ rfl
    have ho' := hop 8 o ho _ rfl
    simp only [hg]
    have q36 : ρ (.tmp 36) = .bool true := hρ 7 (needs2_get hnd 8 7 (by decide)) 36 rfl
    exact .inl ⟨_, rfl, .inl (by unfold execOp; rw [ho']; go_simp)⟩
  | 9, _ =>
    have hg := hgu 9 o ho _ rfl
    have ho' := hop 9 o ho _ rfl
    simp only [hg]
    intro t ht
    obtain rfl : 37 = t := by simpa [dsWS] using ht
    have qg : ρ (.tmp 37) = .bool true := hρ 8 (needs2_get hnd 9 8 (by decide)) 37 rfl
    refine ⟨fun _ => ?_, fun hq => absurd qg hq⟩
    exact .inl ⟨_, rfl, .inl (by unfold execOp; rw [ho']; go_simp)⟩
  | 10, _ =>
    have hg := hgu 10 o ho _ rfl
    have ho' := hop 10 o ho _ rfl
    simp only [hg]
    intro t ht
    obtain rfl : 37 = t := by simpa [dsWS] using ht
    have qg : ρ (.tmp 37) = .bool true := hρ 8 (needs2_get hnd 10 8 (by decide)) 37 rfl
    refine ⟨fun _ => ?_, fun hq => absurd qg hq⟩
    exact .inl ⟨_, rfl, .inl (by unfold execOp; rw [ho']; go_simp)⟩
  | 11, _ =>
    have hg := hgu 11 o ho _ rfl
    have ho' := hop 11 o ho _ rfl
    simp only [hg]
    intro t ht
    obtain rfl : 37 = t := by simpa [dsWS] using ht
    have qg : ρ (.tmp 37) = .bool true := hρ 8 (needs2_get hnd 11 8 (by decide)) 37 rfl
    refine ⟨fun _ => ?_, fun hq => absurd qg hq⟩
    exact .inl ⟨_, rfl, .inl (by unfold execOp; rw [ho']; go_simp)⟩
  | 12, _ =>
    have hg := hgu 12 o ho _ rfl
    have ho' := hop 12 o ho _ rfl
    simp only [hg]
    have q39 : ρ (.tmp 39) = .slice (some ad) zs.length c := hρ 10 (needs2_get hnd 12 10 (by decide)) 39 rfl
    have q40 : ρ (.tmp 40) = .int .i64 (i : Nat) := hρ 11 (needs2_get hnd 12 11 (by decide)) 40 rfl
    intro t ht
    obtain rfl : 37 = t := by simpa [dsWS] using ht
    have qg : ρ (.tmp 37) = .bool true := hρ 8 (needs2_get hnd 12 8 (by decide)) 37 rfl
    refine ⟨fun _ => ?_, fun hq => absurd qg hq⟩
    exact .inl ⟨_, rfl, .inl (by unfold execOp; rw [ho']; go_simp)⟩
  | 13, _ =>
    have hg := hgu 13 o ho _ rfl
    have ho' := hop 13 o ho _ rfl
    simp only [hg]
    have q41 : ρ (.tmp 41) = .pointer (some (ad.add i)) := hρ 12 (needs2_get hnd 13 12 (by decide)) 41 rfl
    intro t ht
    obtain rfl : 37 = t := by simpa [dsWS] using ht
    have qg : ρ (.tmp 37) = .bool true := hρ 8 (needs2_get hnd 13 8 (by decide)) 37 rfl
    refine ⟨fun _ => ?_, fun hq => absurd qg hq⟩
    have c0 := cell_later hb k0
    exact .inl ⟨_, rfl, .inl (by unfold execOp; rw [ho']; go_simp)⟩
  | 14, _ =>
    have hg := hgu 14 o ho _ rfl
    have ho' := hop 14 o ho _ rfl
    simp only [hg]
    have q38 : ρ (.tmp 38) = .pointer (some ⟨m + 3, 0, none⟩) := hρ 9 (needs2_get hnd 14 9 (by decide)) 38 rfl
    have q42 : ρ (.tmp 42) = .int .i64 z := hρ 13 (needs2_get hnd 14 13 (by decide)) 42 rfl
    intro t ht
    obtain rfl : 37 = t := by simpa [dsWS] using ht
    have qg : ρ (.tmp 37) = .bool true := hρ 8 (needs2_get hnd 14 8 (by decide)) 37 rfl
    refine ⟨fun _ => ?_, fun hq => absurd qg hq⟩
    refine .inr (.inr ⟨35, #[.pointer (some ⟨m + 3, 0, none⟩), .int .i64 z], ?_, ?_⟩)
    · unfold execOp
      rw [ho']
      simp [go_sem, hfun, q38, q42, resolve, Act.eval]
    · refine (is_of (C := fun r => txOf Φ.cat r [67, 110]) (fun W hW r => category_walk ((htb.below hb).below hW) hfo r) z).mono ?_
      rintro e W' ⟨rfl, hb'⟩
      rw [hg']
      exact ⟨_, rfl, hb.trans (hb'.mono hb.size), hb', rfl⟩
  | 15, _ =>
    have hg := hgu 15 o ho _ rfl
    have ho' := hop 15 o ho _ rfl
    simp only [hg]
    intro t ht
    obtain rfl : 37 = t := by simpa [dsWS] using ht
    have qg : ρ (.tmp 37) = .bool true := hρ 8 (needs2_get hnd 15 8 (by decide)) 37 rfl
    refine ⟨fun _ => ?_, fun hq => absurd qg hq⟩
    exact .inl ⟨_, rfl, .inl (by unfold execOp; rw [ho']; go_simp)⟩
  | 16, _ =>
    have hg := hgu 16 o ho _ rfl
    have ho' := hop 16 o ho _ rfl
    simp only [hg]
    intro t ht
    obtain rfl : 37 = t := by simpa [dsWS] using ht
    have qg : ρ (.tmp 37) = .bool true := hρ 8 (needs2_get hnd 16 8 (by decide)) 37 rfl
    refine ⟨fun _ => ?_, fun hq => absurd qg hq⟩
    exact .inl ⟨_, rfl, .inl (by unfold execOp; rw [ho']; go_simp)⟩
  | 17, _ =>
    have hg := hgu 17 o ho _ rfl
    have ho' := hop 17 o ho _ rfl
    simp only [hg]
    intro t ht
    obtain rfl : 37 = t := by simpa [dsWS] using ht
    have qg : ρ (.tmp 37) = .bool true := hρ 8 (needs2_get hnd 17 8 (by decide)) 37 rfl
    refine ⟨fun _ => ?_, fun hq => absurd qg hq⟩
    exact .inl ⟨_, rfl, .inl (by unfold execOp; rw [ho']; go_simp)⟩
  | 18, _ =>
    have hg := hgu 18 o ho _ rfl
    have ho' := hop 18 o ho _ rfl
    simp only [hg]
    have q45 : ρ (.tmp 45) = .slice (some ad) zs.length c := hρ 16 (needs2_get hnd 18 16 (by decide)) 45 rfl
    have q46 : ρ (.tmp 46) = .int .i64 (i : Nat) := hρ 17 (needs2_get hnd 18 17 (by decide)) 46 rfl
    intro t ht
    obtain rfl : 37 = t := by simpa [dsWS] using ht
    have qg : ρ (.tmp 37) = .bool true := hρ 8 (needs2_get hnd 18 8 (by decide)) 37 rfl
    refine ⟨fun _ => ?_, fun hq => absurd qg hq⟩
    exact .inl ⟨_, rfl, .inl (by unfold execOp; rw [ho']; go_simp)⟩
  | 19, _ =>
    have hg := hgu 19 o ho _ rfl
    have ho' := hop 19 o ho _ rfl
    simp only [hg]
    have q47 : ρ (.tmp 47) = .pointer (some (ad.add i)) := hρ 18 (needs2_get hnd 19 18 (by decide)) 47 rfl
    intro t ht
    obtain rfl : 37 = t := by simpa [dsWS] using ht
    have qg : ρ (.tmp 37) = .bool true := hρ 8 (needs2_get hnd 19 8 (by decide)) 37 rfl
    refine ⟨fun _ => ?_, fun hq => absurd qg hq⟩
    have c0 := cell_later hb k0
    exact .inl ⟨_, rfl, .inl (by unfold execOp; rw [ho']; go_simp)⟩
  | 20, _ =>
    have hg := hgu 20 o ho _ rfl
    have ho' := hop 20 o ho _ rfl
    simp only [hg]
    have q44 : ρ (.tmp 44) = .pointer (some ⟨b, 0, none⟩) := hρ 15 (needs2_get hnd 20 15 (by decide)) 44 rfl
    have q48 : ρ (.tmp 48) = .int .i64 z := hρ 19 (needs2_get hnd 20 19 (by decide)) 48 rfl
    intro t ht
    obtain rfl : 37 = t := by simpa [dsWS] using ht
    have qg : ρ (.tmp 37) = .bool true := hρ 8 (needs2_get hnd 20 8 (by decide)) 37 rfl
    refine ⟨fun _ => ?_, fun hq => absurd qg hq⟩
    refine .inr (.inr ⟨36, #[.pointer (some ⟨b, 0, none⟩), .int .i64 z], ?_, ?_⟩)
    · unfold execOp
      rw [ho']
      simp [go_sem, hfun, q44, q48, resolve, Act.eval]
    · refine (is11_walk (hr.below hb) hfo hne z).mono ?_
      rintro e W' ⟨rfl, hb'⟩
      rw [hg']
      exact ⟨_, rfl, hb.trans (hb'.mono hb.size), hb', rfl⟩
  | 21, _ =>
    have hg := hgu 21 o ho _ rfl
    have ho' := hop 21 o ho _ rfl
    simp only [hg]
    have q43 : ρ (.tmp 43) = .bool g := hρ 14 (needs2_get hnd 21 14 (by decide)) 43 rfl
    have q49 : ρ (.tmp 49) = .bool g := hρ 20 (needs2_get hnd 21 20 (by decide)) 49 rfl
    intro t ht
    obtain rfl : 37 = t := by simpa [dsWS] using ht
    have qg : ρ (.tmp 37) = .bool true := hρ 8 (needs2_get hnd 21 8 (by decide)) 37 rfl
    refine ⟨fun _ => ?_, fun hq => absurd qg hq⟩
    exact .inl ⟨_, rfl, .inl (by unfold execOp; rw [ho']; go_simp)⟩
  | 22, _ =>
    have hg := hgu 22 o ho _ rfl
    have ho' := hop 22 o ho _ rfl
    simp only [hg]
    have q37 : ρ (.tmp 37) = .bool true := hρ 8 (needs2_get hnd 22 8 (by decide)) 37 rfl
    have q50 : ρ (.tmp 50) = .bool false := hρ 21 (needs2_get hnd 22 21 (by decide)) 50 rfl
    exact .inl ⟨_, rfl, .inl (by unfold execOp; rw [ho']; go_simp)⟩
  | nx + 23, hx => exact absurd hx (by omega)
set_option maxRecDepth 100000 in
set_option maxHeartbeats 3200000 in
theorem wordSimple_walk {v0 : Value} {zs0 : List Int} (w : World) (hl0 : ListV w v0 zs0) (hE : Env w) (hT : EnvT w) : Calls Tryz.prog 8 #[v0] w fun e w' => e = .returned (.bool true) ∧ Below w.heap.size w w' := by
  have HLD := Lib.hid (load_calls w hE hT)
  have HRL := Lib.hid (fun W => ref_load W)
  have HA := Lib.hid (fun (W : World) (hb : Below w.heap.size w W) => awake11_walk W (hE.below hb) (hT.below hb))
  have Hok := Lib.hid files_ok
  have Hne := Lib.hid (fun r : Int => txOf_ne files_cat r (other := [67, 110]) (by decide))
  generalize files = Φ at *
  clear hE hT
  obtain ⟨A, c, rfl, hac, han, _⟩ := hl0.form
  obtain ⟨k, hk1, hk2⟩ : ∃ k : Nat, (if 60 < (zs0.length : Int) then 60 else (zs0.length : Int)) = k ∧ (k ≤ 60 ∧ k ≤ zs0.length) := by
    by_cases h : 60 < (zs0.length : Int)
    · exact ⟨60, by rw [if_pos h]; rfl, by omega⟩
    · exact ⟨zs0.length, by rw [if_neg h], by omega⟩
  have m2 : min (zs0.length : Int) 60 = k := by rw [← hk1]; split <;> omega
  have m3 : (if (zs0.length : Int) ≤ 60 then (zs0.length : Int) else 60) = k := by rw [← hk1]; split <;> split <;> omega
  have HAL := Lib.hid (hl0.cut hk2.2)
  obtain ⟨zs, hzs, hzl⟩ : ∃ zs : List Int, zs = zs0.take k ∧ zs.length = k := ⟨_, rfl, by rw [List.length_take]; omega⟩
  rw [← hzs] at HAL
  clear hl0 hzs
  subst hzl
  have hk60 := hk2.1
  go_enter Tryz.func8, Tryz.ntmps8
  go_wp2_with fail
  refine HLD.out.mono ?_
  rintro e w1 ⟨rfl, ht, hb1⟩
  have HT1 := Lib.hid ht
  have HB1 := Lib.hid hb1
  have HL1 := Lib.hid (HAL.out.below hb1)
  clear ht hb1 HLD HAL hk1 hk2 m2 m3
  go_wp2_with fail
  refine (HRL.out _).mono ?_
  rintro e w2 ⟨b, rfl, hr, hb2⟩
  generalize w1.heap.size = B at hr
  have HR2 := Lib.hid hr
  have HT2 := Lib.hid (HT1.out.below hb2)
  have HL2 := Lib.hid (HL1.out.below hb2)
  have HB2 := Lib.hid (HB1.out.trans (hb2.mono HB1.out.size))
  clear hr hb2 HRL HT1 HL1 HB1
  obtain ⟨⟨A2, c2, e2, hn, _⟩, _⟩ := id HL2.out
  injection e2 with e3 e4 e5
  subst e3 e5
  clear e4
  have b0 : IntKind.i64.wrap ((zs.length : Int) + 1) = (zs.length : Int) + 1 := by rw [IntKind.wrap_i64]; omega
  have v0 : wrap64 ((zs.length : Int) + 1) = (zs.length : Int) + 1 := by unfold wrap64; omega
  go_wp2_with fail
  go_loopw [5] (fun x wr => ∃ q : Int, -1 ≤ q ∧ q ≤ zs.length + 2 ∧ x = .int .i64 q ∧ Hid (Below w2.heap.size w2 wr)) (fun x _ => ((zs.length : Int) + 2 - intOf x).toNat)
  case atStart => exact ⟨-1, by omega, by omega, rfl, Below.refl _ _⟩
  case round =>
    obtain ⟨q, hq1, hq2, rfl, HB⟩ := hrel
    by_cases hle : q ≤ (zs.length : Int) + 1
    · have d0 := decide_eq_true hle
      have b1 : IntKind.i64.wrap (q + 1) = q + 1 := by rw [IntKind.wrap_i64]; omega
      have v1 : wrap64 (q + 1) = q + 1 := by unfold wrap64; omega
      have hqw : (Lit.int .i64 q).wf = true := wf_i64 (by omega) (by omega)
      go_wp2_with fail
      refine (simple_of (C := fun r => txOf Φ.cat r [67, 110]) (fun W hW r => category_walk ((HT2.out.below HB.out).below hW) Hok.out r) (HL2.out.below HB.out).1 q hqw).mono ?_
      rintro e w4 ⟨rfl, hb4⟩
      have HB4 := Lib.hid (HB.out.trans (hb4.mono HB.out.size))
      clear hb4 HB
      go_wp2_with fail
      refine (simple11_walk (HR2.out.below HB4.out) Hok.out Hne.out (HL2.out.below HB4.out).1 q hqw).mono ?_
      rintro e w5 ⟨rfl, hb5⟩
      have HB5 := Lib.hid (HB4.out.trans (hb5.mono HB4.out.size))
      clear hb5 HB4
      generalize simpleW (fun r => txOf Φ.cat r [67, 110]) zs q = x at *
      have hx : (x != x) = false := by simp
      go_upto_region 8 with fail
      by_cases h0 : 0 ≤ q
      · obtain ⟨i, rfl⟩ := Int.eq_ofNat_of_zero_le h0
        by_cases hi : i < zs.length
        · obtain ⟨ad, rfl, k0⟩ := (HL2.out.below HB5.out).cell i hi
          generalize zs.getD i 0 = z at *
          obtain ⟨g, hg⟩ : ∃ g, isW (txOf Φ.cat z [67, 110]) = g := ⟨_, rfl⟩
          refine regionWS _ _ _ _ _ _ b B i Φ zs ad c z g rfl rfl (by kernel_rfl) (by kernel_rfl) (by first | simp | exact Nat.le_refl _ | decide) rfl rfl rfl rfl (HT2.out.below HB5.out) (HR2.out.below HB5.out) Hok.out Hne.out hg (by simp) k0 hi hn (by simp) (by simp; omega) (decide_eq_true hi) ?_
          intro V W_ hb_ hV
          have hVn : V 22 = .bool false := hV 22 (by decide)
          simp [frS, stepS, Exit.then]
          rw [hVn]
          have HB6 := Lib.hid (HB5.out.trans (hb_.mono HB5.out.size))
          clear hb_ hV hVn
          go_wp2_with fail
          go_roundw
          case rel => exact ⟨(i : Int) + 1, by omega, by omega, rfl, HB6⟩
          case measure => first | (simp [intOf]; done) | (simp [intOf]; omega)
        · have d1 : decide ((i : Int) ≥ 0) = true := by simp
          have d2 : decide ((i : Int) < (zs.length : Int)) = false := by simp; omega
          have d3 : decide (i < zs.length) = false := decide_eq_false hi
          go_quiet (fail)
          simp only [Exit.then]
          go_wp2_with fail
          go_roundw
          case rel => exact ⟨(i : Int) + 1, by omega, by omega, rfl, HB5.out.trans ((below_drewN _ _).mono HB5.out.size)⟩
          case measure => first | (simp [intOf]; done) | (simp [intOf]; omega)
      · have d1 : decide (q ≥ 0) = false := by simp; omega
        go_quiet (fail)
        simp only [Exit.then]
        go_wp2_with fail
        go_roundw
        case rel => exact ⟨q + 1, by omega, by omega, rfl, HB5.out.trans ((below_drewN _ _).mono HB5.out.size)⟩
        case measure => first | (simp [intOf]; done) | (simp [intOf]; omega)
    · have d0 := decide_eq_false hle
      have HBw := Lib.hid (HB2.out.trans (HB.out.mono HB2.out.size))
      go_wp2_with fail
      refine (HA.out _ HBw.out).mono ?_
      rintro e w5 ⟨rfl, hb5⟩
      have HB5 := Lib.hid (HBw.out.trans (hb5.mono HBw.out.size))
      clear hb5
      go_wp2_with fail
      go_ret
      exact ⟨rfl, HB5.out⟩
end Go.Proofs.YtkgomgfhfoomhaaGreatDoor
