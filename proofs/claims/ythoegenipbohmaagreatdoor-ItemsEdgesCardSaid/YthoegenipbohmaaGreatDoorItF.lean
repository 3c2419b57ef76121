/- A function value that tells of items; slices.IndexFunc, slices.ContainsFunc of []api.Item. -/
import Derived.Test.YthoegenipbohmaaGreatDoorNormM
namespace Go.Proofs.YthoegenipbohmaaGreatDoor
open Go.RowKit
set_option linter.unusedVariables false
set_option linter.unusedSimpArgs false
def ItFn (w : World) (v : Value) (P : It → Bool) : Prop := ∃ f cap, v = .func (.func f) #[] cap ∧ (∀ (args : Array Value) (W : World), (callFunc f args).run Tryz.prog W = .ok (.enter f args) W) ∧ ∀ (y : It) (W : World), Below w.heap.size w W → Calls Tryz.prog f (#[.agg #[.int .i64 y.r, .int .i64 y.s, .int .i64 y.e]] ++ cap) W fun e W' => e = .returned (.bool (P y)) ∧ Below W.heap.size W W'
theorem ItFn.below {w w' : World} {v : Value} {P : It → Bool} (h : ItFn w v P) (hb : Below w.heap.size w w') : ItFn w' v P := by
  obtain ⟨f, cap, rfl, hg, hc⟩ := h
  exact ⟨f, cap, rfl, hg, fun s W hW => hc s W (hb.trans (hW.mono hb.size))⟩
def idxIt (P : It → Bool) : List It → Int → Int
  | [], _ => -1
  | x :: xs, i => if P x then i else idxIt P xs (i + 1)
theorem idxIt_any (P : It → Bool) : ∀ (xs : List It) (i : Int), 0 ≤ i → decide (idxIt P xs i ≥ 0) = xs.any P
  | [], i, h => rfl
  | x :: rs, i, h => by
    unfold idxIt
    rw [List.any_cons]
    cases hx : P x with
    | true => simp; omega
    | false => simp only [Bool.false_eq_true, if_false, Bool.false_or]; exact idxIt_any P rs (i + 1) (by omega)
set_option maxRecDepth 100000 in
theorem indexit_walk (w : World) (v u : Value) (xs : List It) (P : It → Bool) (hl : ItsAt w v xs) (hf : ItFn w u P) : Calls Tryz.prog 63 #[v, u] w fun e w' => e = .returned (.int .i64 (idxIt P xs 0)) ∧ Below w.heap.size w w' := by
  obtain ⟨A, c, rfl, hn, hz⟩ := hl
  have HZ := Lib.hid hz
  have HF := Lib.hid hf
  obtain ⟨f, cap, rfl, hg, _⟩ := hf
  clear hz
  go_enter Tryz.func63, Tryz.ntmps63
  go_wp2_with fail
  go_loopw [8] (fun i wr => ∃ k : Nat, k ≤ xs.length ∧ i = .int .i64 k ∧ Hid (idxIt P xs 0 = idxIt P (xs.drop k) k) ∧ Hid (Below w.heap.size w wr)) (fun i _ => xs.length - (intOf i).toNat)
  case atStart => exact ⟨0, by omega, rfl, by show idxIt P xs 0 = idxIt P (xs.drop 0) ((0 : Nat) : Int); rw [List.drop_zero]; rfl, Below.refl _ _⟩
  case round =>
    obtain ⟨k, hk, rfl, HI, HB⟩ := hrel
    by_cases hlt : k < xs.length
    · obtain ⟨ad, rfl, had⟩ := HZ.out (by omega)
      obtain ⟨e0, e1, e2⟩ := had k hlt
      have hd : xs.drop k = xs[k] :: xs.drop (k + 1) := List.drop_eq_getElem_cons hlt
      have HI2 := Lib.hid (show idxIt P xs 0 = if P xs[k] then (k : Int) else idxIt P (xs.drop (k + 1)) ((k + 1 : Nat) : Int) by rw [HI.out, hd, idxIt]; rfl)
      obtain ⟨x, hx⟩ : ∃ x, x = xs[k] := ⟨_, rfl⟩
      rw [← hx] at e0 e1 e2 HI2
      have c0 : wr.cell? (ad.add (k * 3)) = some (.int .i64 x.r) := cell_later HB.out e0
      have c1 : wr.cell? ⟨(ad.add (k * 3)).block, (ad.add (k * 3)).off + 1, none⟩ = some (.int .i64 x.s) := cell_later HB.out e1
      have c2 : wr.cell? ⟨(ad.add (k * 3)).block, (ad.add (k * 3)).off + 2, none⟩ = some (.int .i64 x.e) := cell_later HB.out e2
      have HCF := HF.out
      obtain ⟨_, _, e9, _, hFF⟩ := HCF
      cases e9
      have HCl := Lib.hid (hFF x wr HB.out)
      clear hd HI e0 e1 e2 had hx hFF
      go_wp2_with fail
      refine HCl.out.mono ?_
      rintro e w2 ⟨rfl, hb2⟩
      have HB2 := Lib.hid (HB.out.trans (hb2.mono HB.out.size))
      clear hb2 HB c0 c1 c2 HCl
      cases hi : P x with
      | true =>
        have hfin : idxIt P xs 0 = k := by rw [HI2.out, hi, if_pos rfl]
        have Hfin := Lib.hid hfin
        clear hi hfin HI2
        go_wp2_with fail
        go_ret
        refine ⟨?_, HB2.out⟩
        rw [Hfin.out]
        rfl
      | false =>
        have hfin : idxIt P xs 0 = idxIt P (xs.drop (k + 1)) ((k + 1 : Nat) : Int) := by rw [HI2.out, hi, if_neg (by decide)]
        have Hfin := Lib.hid hfin
        clear hi hfin HI2
        go_wp2_with fail
        go_roundw
        case rel => exact ⟨k + 1, by omega, by go_num, Hfin, HB2⟩
        case measure => simp [intOf]; omega
    · have hkl : k = xs.length := by omega
      have hfin : idxIt P xs 0 = -1 := by rw [HI.out, hkl, List.drop_length]; rfl
      have Hfin := Lib.hid hfin
      subst hkl
      clear hfin HI
      go_wp2_with fail
      go_ret
      refine ⟨?_, HB.out⟩
      rw [Hfin.out]
      rfl
theorem containsit_walk (w : World) (v u : Value) (xs : List It) (P : It → Bool) (hl : ItsAt w v xs) (hf : ItFn w u P) : Calls Tryz.prog 20 #[v, u] w fun e w' => e = .returned (.bool (xs.any P)) ∧ Below w.heap.size w w' := by
  have HI := Lib.hid (indexit_walk w v u xs P hl hf)
  rw [← idxIt_any P xs 0 (Int.le_refl _)]
  obtain ⟨A, c, rfl, _, _⟩ := hl
  obtain ⟨f, cap, rfl, _, _⟩ := hf
  go_enter Tryz.func20, Tryz.ntmps20
  go_wp2_with fail
  refine HI.out.mono ?_
  rintro e w1 ⟨rfl, hb1⟩
  have HB := Lib.hid hb1
  clear hb1 HI
  go_wp2_with fail
  go_ret
  exact ⟨rfl, HB.out⟩
end Go.Proofs.YthoegenipbohmaaGreatDoor
