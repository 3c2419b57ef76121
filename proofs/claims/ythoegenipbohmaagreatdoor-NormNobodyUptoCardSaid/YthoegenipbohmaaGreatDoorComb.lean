/- props: Combining, Script, Word; the reference: Combining, Script. -/
import Derived.Test.YthoegenipbohmaaGreatDoorCombP
import Derived.Test.YthoegenipbohmaaGreatDoorAccM
import Derived.Test.YthoegenipbohmaaGreatDoorRef6W
import Derived.Test.YthoegenipbohmaaGreatDoorShelf5
namespace Go.Proofs.YthoegenipbohmaaGreatDoor
open Go.RowKit
set_option linter.unusedVariables false
set_option linter.unusedSimpArgs false

theorem bytesWorld_below (w : World) (e : TypeId) (s : ByteArray) : Below w.heap.size w (Lib.bytesWorld w e s) :=
  ⟨rfl, rfl, rfl, by rw [Lib.bytesWorld_size]; omega, fun k hk => Lib.bytesWorld_at_old w e s k hk⟩
section
variable {w : World} {m : Nat} {Φ : Files}
theorem combining_walk (h : TabAt w m Φ) (hok : FilesOk Φ) (hcb : CombOk Φ) (r : Int) : Calls Tryz.prog 44 #[.pointer (some ⟨m + 3, 0, none⟩), .int .i64 r] w fun e w' => e = .returned (.int .i64 (combOf Φ r)) ∧ Below w.heap.size w w' := by
  have hn := none_walk h
  obtain ⟨⟨p0, p1, p2, p3, p4, vv, kv, hb, hf⟩, _⟩ := h
  have hc : w.cell? ⟨m + 3, 1, none⟩ = some (.pointer (some ⟨p1, 0, none⟩)) := hb.cell 1
  have ho := or_walk hf.t1 r (by have := valsOf_len Φ.comb; have := hok.comb.le; omega) [48]
  have hnum := comb_num hcb r
  unfold combOf
  rw [show (trieGet (valsOf Φ.comb) (entCur (entsOf Φ.comb).reverse) r).getD [48] = txOf Φ.comb r [48] from rfl] at ho
  generalize txOf Φ.comb r [48] = S at *
  have HA := Lib.hid (fun W => (Tryz.strconv_Atoi ⟨S.toArray⟩ ((numN S : Nat) : Int) (by have := (num_bytes hnum).2.1; show S.toArray.size ≤ 18; rw [List.size_toArray]; omega) (atoi_num hnum) W).mono (R' := fun e w' => e = .returned (.tuple #[.int .i64 ((numN S : Nat) : Int), .nilIface]) ∧ Below W.heap.size W w') (fun e w' ⟨he, t, ht⟩ => ⟨he, by rw [ht]; exact bytesWorld_below W _ _⟩))
  have HN := Lib.hid hn
  have HO := Lib.hid ho
  clear hn ho hb hf hnum
  go_enter Tryz.func44, Tryz.ntmps44
  go_wp2_with fail
  refine HN.out.mono ?_
  rintro e w' ⟨rfl, rfl⟩
  go_wp2_with fail
  refine HO.out.mono ?_
  rintro e w1 ⟨rfl, hb1⟩
  have HB1 := Lib.hid hb1
  clear hb1 HO HN
  go_wp2_with fail
  refine (HA.out _).mono ?_
  rintro e w2 ⟨rfl, hb2⟩
  have HB2 := Lib.hid (HB1.out.trans (hb2.mono HB1.out.size))
  clear hb2 HA HB1
  go_wp2_with fail
  go_ret
  exact ⟨rfl, HB2.out⟩
end
section
variable {w : World} {B b : Nat} {Φ : Files}
theorem combining_ref (h : RefAt w B b Φ) (hok : FilesOk Φ) (hcb : CombOk Φ) (r : Int) : Calls Tryz.prog 60 #[.pointer (some ⟨b, 0, none⟩), .int .i64 r] w fun e w' => e = .returned (.int .i64 (combOf Φ r)) ∧ Below w.heap.size w w' := by
  obtain ⟨v0, v1, v2, v3, v4, v5, v6, v7, v8, f0, f1, f2, f3, f4, f5, f6, u7, u8, h0, h1, h2, h3, h4, h5, h6, h7, h8, h9⟩ := h.all
  have hc : w.cell? ⟨b, 1, none⟩ = some v1 := h0.cell 1
  have HO := Lib.hid (or_ref h2 (listOk_ne hok.comb) r (by have := hok.comb.le; omega) [48])
  obtain ⟨A0, c0, rfl⟩ := own_slice h2.row
  have hnum := comb_num hcb r
  unfold combOf
  rw [← txOf_first (listOk_hi hok.comb)] at HO
  generalize txOf Φ.comb r [48] = S at *
  have HNum := Lib.hid hnum
  clear h0 h1 h2 h3 h4 h5 h6 h7 h8 h9 h hnum hcb
  obtain ⟨D, hD⟩ : ∃ D : ByteArray, D = ⟨S.toArray⟩ := ⟨_, rfl⟩
  have hsz : D.size = S.length := by rw [hD]; exact toB_size S
  have HIX := Lib.hid (fun (W : World) (k : Nat) (hk : k < S.length) => (show (Instr.index 9 (.string D) (.int .i64 (k : Int))).run Tryz.prog W = .ok (.int .u8 ((S.getD k 0).toNat : Int)) W by rw [hD]; exact run_byte W 9 Tryz.underlying9 S k hk))
  rw [← hD] at HO
  have hlen := (num_bytes HNum.out).2.1
  clear hD
  go_enter Tryz.func60, Tryz.ntmps60
  go_wp2_with fail
  refine HO.out.mono ?_
  rintro e w1 ⟨rfl, hb⟩
  have HB := Lib.hid hb
  clear hb HO
  go_wp2_with fail
  go_loopw [5, 7] (fun vn vi wr => ∃ (k n : Nat), k ≤ S.length ∧ vi = .int .i64 k ∧ vn = .int .i64 n ∧ Hid (n = numN (S.take k)) ∧ Hid (Below w.heap.size w wr)) (fun _ vi _ => S.length - (intOf vi).toNat)
  case atStart => exact ⟨0, 0, by omega, rfl, rfl, rfl, HB⟩
  case round =>
    obtain ⟨k, n, hk, rfl, rfl, HNk, HBr⟩ := hrel
    by_cases hlt : k < S.length
    · have hix := HIX.out wr k hlt
      have hbb := (num_bytes HNum.out).2.2 (S.getD k 0) (by rw [List.getD_eq_getElem?_getD, List.getElem?_eq_getElem hlt]; exact List.getElem_mem _)
      have hn1 : n < 1000 := by rw [HNk.out]; exact numN_take HNum.out k
      have hnx : numN (S.take (k + 1)) = n * 10 + ((S.getD k 0).toNat - 48) := by
        rw [numN_succ S k hlt, ← HNk.out, List.getD_eq_getElem?_getD, List.getElem?_eq_getElem hlt]
        rfl
      generalize (S.getD k 0).toNat = b at *
      obtain ⟨d, hd⟩ : ∃ d : Nat, d = b - 48 := ⟨_, rfl⟩
      obtain ⟨q, hq⟩ : ∃ q : Nat, q = 10 * n := ⟨_, rfl⟩
      obtain ⟨r, hr⟩ : ∃ r : Nat, r = n * 10 + (b - 48) := ⟨_, rfl⟩
      have HNk2 := Lib.hid (show r = numN (S.take (k + 1)) by rw [hnx, hr])
      have e1 : IntKind.u8.wrap ((b : Int) - 48) = (d : Int) := by
        simp [IntKind.wrap, IntKind.bits, IntKind.signed]
        omega
      have e2 : IntKind.i64.wrap (d : Int) = (d : Int) := by rw [IntKind.wrap_i64]; omega
      have e3 : IntKind.i64.wrap (10 * (n : Int)) = (q : Int) := by rw [IntKind.wrap_i64]; omega
      have e4 : IntKind.i64.wrap ((q : Int) + (d : Int)) = (r : Int) := by rw [IntKind.wrap_i64]; omega
      clear hd hq hr hnx HNk hbb hn1
      go_wp2_with fail
      go_roundw
      case rel => exact ⟨k + 1, r, by omega, by go_num, rfl, HNk2, HBr⟩
      case measure => clear e1 e2 e3 e4 hix; simp [intOf]; omega
    · obtain rfl : k = S.length := by omega
      have hn : n = numN S := by rw [HNk.out, List.take_length]
      subst hn
      clear HNk
      go_wp2_with fail
      go_ret
      exact ⟨rfl, HBr.out⟩
end
end Go.Proofs.YthoegenipbohmaaGreatDoor
