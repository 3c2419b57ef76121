/- fold.Same; rubricatorlaw09.FoldSettles answers true. -/
import Derived.Test.YtmdkjljcnegmeaaDoorAccW
import Derived.Test.YtmdkjljcnegmeaaDoorLoad2W
import Derived.Test.YtmdkjljcnegmeaaDoorKern
namespace Go.Proofs.YtmdkjljcnegmeaaDoor
open Go.RowKit
set_option linter.unusedVariables false
set_option linter.unusedSimpArgs false

theorem EnvT.lt {w : World} (h : EnvT w) : 1 < w.heap.size := by
  unfold EnvT Lib.TabIs World.var? at h
  have hg : Tryd.prog.globalNamed "strings.asciiSpace" = some 1 := by kernel_rfl
  rw [hg] at h
  simp only [Option.bind_some] at h
  rcases Nat.lt_or_ge 1 w.heap.size with h1 | h1
  · exact h1
  · rw [Array.getElem?_eq_none h1] at h
    cases h
theorem load_calls (w : World) (hE : Env w) (hT : EnvT w) : Calls Tryd.prog 9 #[] w (LoadedSaid files w) := loaded_walk files files_ok texts_ok w hE hT hT.lt
section
variable {w : World} {m : Nat} {Φ : Files}
theorem foldz_cons (hok : FilesOk Φ) (full : Bool) (r : Int) : ∃ n l, foldz Φ full r = n :: l := by
  unfold foldz
  cases hF : foldsOf full Φ.fol r with
  | none => exact ⟨r, [], rfl⟩
  | some l =>
    obtain ⟨x, hx, _, _, _, rfl⟩ := foldsOf_some full Φ.fol Φ.fol (fun _ => none) (fun _ h => h) (fun _ _ h => by cases h) r l hF
    obtain ⟨n, l, hp⟩ := List.exists_cons_of_ne_nil (hok.fol x hx).pts
    rw [hp]
    exact ⟨_, _, rfl⟩
theorem foldz_wf (hok : FilesOk Φ) (full : Bool) (r : Int) (hr : (Lit.int .i64 r).wf = true) : ∀ x ∈ foldz Φ full r, (Lit.int .i64 x).wf = true := by
  intro x hx
  unfold foldz at hx
  cases hF : foldsOf full Φ.fol r with
  | none =>
    rw [hF] at hx
    obtain rfl : x = r := by simpa using hx
    exact hr
  | some l =>
    rw [hF] at hx
    obtain ⟨y, hy, _, h1, h2, rfl⟩ := foldsOf_some full Φ.fol Φ.fol (fun _ => none) (fun _ h => h) (fun _ _ h => by cases h) r l hF
    obtain ⟨n, hn, rfl⟩ := List.mem_map.1 hx
    have hle := pts_le (fld1 y)
    have hhi := (hok.fol y hy).hi
    have hn2 : n ≤ 2228222 := by
      cases hp : Sp.pts (fld1 y) with
      | nil => rw [hp] at hn; simp [bump] at hn
      | cons a b =>
        rw [hp] at hn hle
        have ha := hle a List.mem_cons_self
        rcases List.mem_cons.1 hn with rfl | hn
        · omega
        · have := hle n (List.mem_cons_of_mem _ hn)
          omega
    exact wf_i64 (by omega) (by omega)
set_option maxRecDepth 100000 in
theorem same_walk (h : TabAt w m Φ) (hok : FilesOk Φ) (a b : Int) (ha : (Lit.int .i64 a).wf = true) (hb : (Lit.int .i64 b).wf = true) :
    Calls Tryd.prog 13 #[.pointer (some ⟨m + 3, 0, none⟩), .int .i64 a, .int .i64 b] w fun e w' => e = .returned (.bool (simpleOf Φ a == simpleOf Φ b)) ∧ Below w.heap.size w w' := by
  have hwa := to_walk h hok a ha false
  have hwb := fun w' (hb' : Below w.heap.size w w') => to_walk (h.below hb') hok b hb false
  simp only [Bool.false_eq_true, if_false] at hwa hwb
  obtain ⟨na, la, ea⟩ := foldz_cons hok false a
  obtain ⟨nb, lb, eb⟩ := foldz_cons hok false b
  unfold simpleOf
  rw [ea] at hwa ⊢
  simp only [eb] at hwb ⊢
  simp only [List.headD_cons]
  have HA := Lib.hid hwa
  have HB := Lib.hid hwb
  clear hwa hwb ea eb h hok
  go_enter Tryd.func13, Tryd.ntmps13
  go_wp2_with fail
  refine HA.out.mono ?_
  rintro e w1 ⟨v1, rfl, hv1, hb1⟩
  have HB1 := Lib.hid hb1
  have HV1 := Lib.hid hv1
  clear hb1 hv1 HA
  go_wp2_with fail
  refine (HB.out _ HB1.out).mono ?_
  rintro e w2 ⟨v2, rfl, hv2, hb2⟩
  have hv1 := own_below HV1.out hb2
  have hla : (na :: la).length = la.length + 1 := rfl
  have hlb : (nb :: lb).length = lb.length + 1 := rfl
  obtain ⟨g1, k1, rfl, _, _, _, _⟩ := own_form hv1 (by rw [hla]; omega)
  obtain ⟨g2, k2, rfl, _, _, _, _⟩ := own_form hv2 (by rw [hlb]; omega)
  have hl1 := own_len hv1
  have hl2 := own_len hv2
  unfold maxLen at hl1 hl2
  have c1 : w2.cell? ⟨g1, 0, none⟩ = some (.int .i64 na) := own_cell hv1 0 _ rfl
  have c2 : w2.cell? ⟨g2, 0, none⟩ = some (.int .i64 nb) := own_cell hv2 0 _ rfl
  rw [hla, hlb] at *
  have HB2 := Lib.hid (HB1.out.trans (hb2.mono HB1.out.size))
  have d1 : decide (((la.length + 1 : Nat) : Int) > 0) = true := by rw [decide_eq_true_eq]; omega
  have d2 : decide (((lb.length + 1 : Nat) : Int) > 0) = true := by rw [decide_eq_true_eq]; omega
  clear hv1 hv2 hb2 HV1 HB1 HB hla hlb
  go_wp2_with fail
  go_quiet (fail)
  simp only [Exit.then]
  go_wp2_with fail
  go_ret
  exact ⟨rfl, HB2.out.trans ((below_drewN _ _).mono HB2.out.size)⟩
end
theorem foldz_settles (r : Int) : ∀ x ∈ foldz files true r, foldz files true x = [x] := by
  intro x hx
  have key : foldsOf true files.fol x = none ∨ (x = r ∧ foldsOf true files.fol r = none) := by
    unfold foldz at hx
    cases hF : foldsOf true files.fol r with
    | none =>
      rw [hF] at hx
      exact .inr ⟨by simpa using hx, rfl⟩
    | some l =>
      rw [hF] at hx
      obtain ⟨n, hn, rfl⟩ := List.mem_map.1 hx
      exact .inl ((folds_settle (fol_settle true) hF).2 n hn)
  have : foldsOf true files.fol x = none := by
    rcases key with h | ⟨rfl, h⟩
    · exact h
    · exact h
  unfold foldz
  rw [this]
theorem simple_settles (r : Int) : simpleOf files (simpleOf files r) = simpleOf files r := by
  have key : ∀ x, foldsOf false files.fol x = none → simpleOf files x = x := fun x h => by
    unfold simpleOf foldz
    rw [h]
    rfl
  cases hF : foldsOf false files.fol r with
  | none => rw [key r hF, key r hF]
  | some l =>
    obtain ⟨h1, h2⟩ := folds_settle (fol_settle false) hF
    obtain ⟨n, l, rfl⟩ := List.exists_cons_of_ne_nil h1
    have e : simpleOf files r = (n : Int) := by
      unfold simpleOf foldz
      rw [hF]
      rfl
    rw [e]
    exact key _ (h2 n List.mem_cons_self)
theorem simple_wf (r : Int) (hr : (Lit.int .i64 r).wf = true) : (Lit.int .i64 (simpleOf files r)).wf = true := by
  obtain ⟨n, l, h⟩ := foldz_cons files_ok false r
  have := foldz_wf files_ok false r hr
  rw [h] at this
  unfold simpleOf
  rw [h]
  exact this n List.mem_cons_self
set_option maxRecDepth 100000 in
theorem foldSettles_walk (r : Int) (hr : (Lit.int .i64 r).wf = true) (w : World) (hE : Env w) (hT : EnvT w) : Calls Tryd.prog 3 #[.int .i64 r] w fun e w' => e = .returned (.bool true) ∧ Below w.heap.size w w' := by
  have hld := load_calls w hE hT
  have HLD := Lib.hid hld
  have Hset := Lib.hid (foldz_settles r)
  have Hwf := Lib.hid (foldz_wf files_ok true r hr)
  have hsr := simple_settles r
  have hsw := simple_wf r hr
  obtain ⟨n0, l0, el0⟩ := foldz_cons files_ok true r
  have Hok := Lib.hid files_ok
  generalize files = Φ at *
  clear hld hE hT
  go_enter Tryd.func3, Tryd.ntmps3
  go_wp2_with fail
  refine HLD.out.mono ?_
  rintro e w1 ⟨rfl, ht, hb1⟩
  have HT1 := Lib.hid ht
  have HB1 := Lib.hid hb1
  clear ht hb1 HLD
  go_wp2_with fail
  refine (simple_walk HT1.out Hok.out r hr).mono ?_
  rintro e w2 ⟨rfl, hb2⟩
  have HT2 := Lib.hid (HT1.out.below hb2)
  have HB2 := Lib.hid (HB1.out.trans (hb2.mono HB1.out.size))
  clear hb2 HT1 HB1
  go_wp2_with fail
  refine (full_walk HT2.out Hok.out r hr).mono ?_
  rintro e w3 ⟨v3, rfl, hv3, hb3⟩
  have HT3 := Lib.hid (HT2.out.below hb3)
  have HB3 := Lib.hid (HB2.out.trans (hb3.mono HB2.out.size))
  generalize hl : foldz Φ true r = l at *
  have hpos : 0 < l.length := by rw [el0]; simp
  obtain ⟨g3, k3, rfl, hg31, hg32, hg33, hg34⟩ := own_form hv3 hpos
  have hlen := own_len hv3
  unfold maxLen at hlen
  have HV3 := Lib.hid hv3
  have Hel := Lib.hid el0
  generalize hs : simpleOf Φ r = s at *
  have Hs := Lib.hid hs
  clear hv3 hb3 HT2 HB2 el0 hl hs
  go_wp2_with fail
  go_loopw [17] (fun i wr => ∃ k : Nat, k ≤ l.length ∧ i = .int .i64 k ∧ Hid (Below w3.heap.size w3 wr)) (fun i _ => l.length - (intOf i).toNat)
  case atStart => exact ⟨0, by omega, rfl, Below.refl _ _⟩
  case round =>
    obtain ⟨k, hk, rfl, HB⟩ := hrel
    have HTr := Lib.hid (HT3.out.below HB.out)
    by_cases hlt : k < l.length
    · obtain ⟨x, hx⟩ : ∃ x, x = l[k] := ⟨_, rfl⟩
      have hxm : x ∈ l := by rw [hx]; exact List.getElem_mem _
      have cx : wr.cell? ⟨g3, k, none⟩ = some (.int .i64 x) := (HB.out.cell (p := ⟨_, _, _⟩) hg32).trans (own_cell HV3.out k _ (by unfold intz; rw [List.getElem?_map, List.getElem?_eq_getElem hlt, hx]; rfl))
      have hxs := Hset.out x hxm
      have hxw := Hwf.out x hxm
      have hfw := full_walk HTr.out Hok.out x hxw
      rw [hxs] at hfw
      have HFW := Lib.hid hfw
      clear hx hxm hxs hfw
      go_wp2_with fail
      refine HFW.out.mono ?_
      rintro e w4 ⟨v4, rfl, hv4, hb4⟩
      have HV4 := Lib.hid hv4
      have HB4 := Lib.hid (HB.out.trans (hb4.mono HB.out.size))
      clear hv4 hb4 HFW HTr cx
      go_wp2_with fail
      have hba := alloc_below w4 (Obj.cells #[Value.int IntKind.i64 x] 3)
      refine (equal_walk (own_below HV4.out hba) (l := [x]) (m := [x]) (own_fresh1 w4 3 (Value.int .i64 x))).mono ?_
      rintro e w5 ⟨rfl, hb5⟩
      have HB5 := Lib.hid (HB4.out.trans ((hba.mono HB4.out.size).trans (hb5.mono (Nat.le_trans HB4.out.size hba.size))))
      have e1 : ([x] == [x]) = true := by simp
      rw [e1]
      clear hb5 hba HV4 HB4 e1
      go_wp2_with fail
      go_roundw
      case rel => exact ⟨k + 1, by omega, by go_num, HB5⟩
      case measure => simp [intOf]; omega
    · have hkl : k = l.length := by omega
      subst hkl
      have HB9 := Lib.hid (HB3.out.trans (HB.out.mono HB3.out.size))
      clear HB HT3 HB3 HV3 Hset Hwf
      go_wp2_with fail
      refine (simple_walk HTr.out Hok.out s hsw).mono ?_
      rintro e w5 ⟨rfl, hb5⟩
      rw [hsr]
      have HT5 := Lib.hid (HTr.out.below hb5)
      have HB5 := Lib.hid (HB9.out.trans (hb5.mono HB9.out.size))
      clear hb5 HB9 HTr
      go_wp2_with fail
      refine (same_walk HT5.out Hok.out r s hr hsw).mono ?_
      rintro e w6 ⟨rfl, hb6⟩
      have e1 : (simpleOf Φ r == simpleOf Φ s) = true := by rw [hsr, Hs.out]; simp
      rw [e1]
      have HB6 := Lib.hid (HB5.out.trans (hb6.mono HB5.out.size))
      clear hb6 HT5 HB5 e1
      go_wp2_with fail
      go_ret
      exact ⟨rfl, HB6.out⟩
end Go.Proofs.YtmdkjljcnegmeaaDoor
