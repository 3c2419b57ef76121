/- names.Resolve, as far as strings.IndexAny finds the first '=' or ':'. -/
import Derived.Test.YtchkckfadennhaaGreatDoorFindW
import Derived.Test.YtchkckfadennhaaGreatDoorRefP
namespace Go.Proofs.YtchkckfadennhaaGreatDoor
open Go.RowKit
set_option linter.unusedVariables false
set_option linter.unusedSimpArgs false

/-- What IndexAny is to say of a text. -/
def IdxOk (l : Sp.Str) : Prop := ∀ w, Calls Tryz.prog 45 #[.string ⟨l.toArray⟩, .string ⟨#[61, 58]⟩] w fun e w' => e = .returned (.int .i64 (match l.findIdx? Sp.splitter with | some i => (i : Int) | none => -1)) ∧ Below w.heap.size w w'
def ResSaid (rs : List (List Sp.Str)) (l : Sp.Str) (w : World) (e : Ending) (w' : World) : Prop := e = .returned (.tuple #[.int .i64 (Sp.resolve rs l).1, .string ⟨(Sp.resolve rs l).2.1.toArray⟩, .int .i64 (Sp.resolve rs l).2.2]) ∧ Below w.heap.size w w'
theorem res_fin {rs : List (List Sp.Str)} {l : Sp.Str} {w w' : World} {k : Int} {v : Sp.Str} {e : Int} (h : Sp.resolve rs l = (k, v, e)) (hb : Below w.heap.size w w') : ResSaid rs l w (.returned (.tuple #[.int .i64 k, .string ⟨v.toArray⟩, .int .i64 e])) w' := by
  unfold ResSaid
  rw [h]
  exact ⟨rfl, hb⟩
set_option maxRecDepth 100000 in
theorem resolve_of {rs : List (List Sp.Str)} (hfw : ∀ (kind s : Sp.Str) (w : World), s.length ≤ 2000000 → Env w → Calls Tryz.prog 46 #[.string ⟨kind.toArray⟩, .string ⟨s.toArray⟩] w (FindSaid rs kind s w))
    (l : Sp.Str) (hl : l.length ≤ 2000000) (hix : IdxOk l) (w : World) (hE : Env w) : Calls Tryz.prog 16 #[.string ⟨l.toArray⟩] w (ResSaid rs l w) := by
  have HF := Lib.hid hfw
  have HFin := Lib.hid (fun (k : Int) (v : Sp.Str) (e : Int) (w' : World) (h : Sp.resolve rs l = (k, v, e)) (hb : Below w.heap.size w w') => res_fin h hb)
  have HI := Lib.hid (hix w)
  have hsz : (ByteArray.mk l.toArray).size = l.length := List.size_toArray
  clear hfw hix
  cases hi : l.findIdx? Sp.splitter with
  | some i =>
    have hil : i < l.length := by
      have := List.findIdx?_eq_some_iff_findIdx_eq.1 hi
      exact this.1
    have Hres := Lib.hid (show Sp.resolve rs l = Sp.resolveAt rs (l.take i) (l.drop (i + 1)) by unfold Sp.resolve; rw [hi])
    rw [hi] at HI
    clear hi
    have t1 : (ByteArray.mk l.toArray).extract 0 i = ⟨(l.take i).toArray⟩ := by rw [toB_ext, List.drop_zero]
    have t2 : (ByteArray.mk l.toArray).extract (i + 1) l.length = ⟨(l.drop (i + 1)).toArray⟩ := by rw [toB_ext, List.take_length]
    have HF1 := Lib.hid (fun w => HF.out Sp.pr (l.take i) w (by rw [List.length_take]; omega))
    have HF2 := Lib.hid (fun kind w => HF.out kind (l.drop (i + 1)) w (by rw [List.length_drop]; omega))
    go_enter Tryz.func16, Tryz.ntmps16
    go_wp2_with fail
    refine HI.out.mono ?_
    rintro e w1 ⟨rfl, hb1⟩
    have hE1 := hE.below hb1
    have HB1 := Lib.hid hb1
    have p0 : decide ((0 : Int) ≤ (i : Int)) = true := decide_eq_true (by omega)
    have p1 : IntKind.i64.wrap ((i : Int) + 1) = ((i + 1 : Nat) : Int) := by rw [IntKind.wrap_i64]; omega
    clear hb1 HI
    go_wp2_with fail
    refine (HF1.out w1 hE1).mono ?_
    rintro e w2 ⟨rfl, hb2⟩
    have hE2 := hE1.below hb2
    have HB2 := Lib.hid (HB1.out.trans (hb2.mono HB1.out.size))
    unfold strV
    cases hk : Sp.fnd rs Sp.pr (l.take i) with
    | none =>
      have hfin := HFin.out 0 [] 50 w2 (by rw [Hres.out]; unfold Sp.resolveAt; rw [hk]) HB2.out
      clear hb2 HF1 HF2 Hres hk
      simp only [Option.getD_none, Option.isSome_none]
      go_wp2_with fail
      go_ret3
      exact hfin
    | some kind =>
      simp only [Option.getD_some, Option.isSome_some]
      have HN := Lib.hid (fun w => number_walk kind w)
      clear hb2 HF1
      go_wp2_with fail
      refine (HF2.out kind w2 hE2).mono ?_
      rintro e w3 ⟨rfl, hb3⟩
      have HB3 := Lib.hid (HB2.out.trans (hb3.mono HB2.out.size))
      unfold strV
      cases hv : Sp.fnd rs kind (l.drop (i + 1)) with
      | none =>
        have hfin := HFin.out 0 [] 51 w3 (by rw [Hres.out]; unfold Sp.resolveAt; rw [hk]; simp only; rw [hv]) HB3.out
        clear hb3 HF2 Hres hk hv
        simp only [Option.getD_none, Option.isSome_none]
        go_wp2_with fail
        go_ret3
        exact hfin
      | some v =>
        have hfin := HFin.out (Sp.numb kind) v 0 w3 (by rw [Hres.out]; unfold Sp.resolveAt; rw [hk]; simp only; rw [hv]) HB3.out
        clear hb3 HF2 Hres hk hv
        simp only [Option.getD_some, Option.isSome_some]
        go_wp2_with fail
        refine (HN.out w3).mono ?_
        rintro e w4 ⟨rfl, rfl⟩
        go_wp2_with fail
        go_ret3
        exact hfin
  | none =>
    have Hres := Lib.hid (show Sp.resolve rs l = Sp.resolveIn rs l by unfold Sp.resolve; rw [hi])
    rw [hi] at HI
    clear hi
    have j0 : ∀ w, (Instr.index 76 (.agg #[.string ⟨#[103, 99]⟩, .string ⟨#[98, 105]⟩, .string ⟨#[115, 99]⟩]) (.int .i64 0)).run Tryz.prog w = .ok (.string ⟨#[103, 99]⟩) w := fun _ => by kernel_rfl
    have j1 : ∀ w, (Instr.index 76 (.agg #[.string ⟨#[103, 99]⟩, .string ⟨#[98, 105]⟩, .string ⟨#[115, 99]⟩]) (.int .i64 1)).run Tryz.prog w = .ok (.string ⟨#[98, 105]⟩) w := fun _ => by kernel_rfl
    have j2 : ∀ w, (Instr.index 76 (.agg #[.string ⟨#[103, 99]⟩, .string ⟨#[98, 105]⟩, .string ⟨#[115, 99]⟩]) (.int .i64 2)).run Tryz.prog w = .ok (.string ⟨#[115, 99]⟩) w := fun _ => by kernel_rfl
    go_enter Tryz.func16, Tryz.ntmps16
    go_wp2_with fail
    refine HI.out.mono ?_
    rintro e w1 ⟨rfl, hb1⟩
    have hE1 := hE.below hb1
    have HB1 := Lib.hid hb1
    clear hb1 HI
    go_wp2_with fail
    go_loopw [41] (fun i wr => ∃ q : Nat, q ≤ 3 ∧ i = .int .i64 q ∧ (1 ≤ q → Sp.fnd rs Sp.gc l = none) ∧ (2 ≤ q → Sp.fnd rs Sp.bi l = none) ∧ (3 ≤ q → Sp.fnd rs Sp.sc l = none) ∧ Hid (Below w1.heap.size w1 wr)) (fun i _ => 3 - (intOf i).toNat)
    case atStart => exact ⟨0, by omega, rfl, (fun h => absurd h (by omega)), (fun h => absurd h (by omega)), (fun h => absurd h (by omega)), Below.refl _ _⟩
    case round =>
      obtain ⟨q, hq, rfl, h1, h2, h3, HB⟩ := hrel
      have hEr := hE1.below HB.out
      have HBr := Lib.hid (HB1.out.trans (HB.out.mono HB1.out.size))
      by_cases hq3 : q < 3
      · obtain ⟨n, hn, hi⟩ : ∃ n : Sp.Str, ((q = 0 ∧ n = Sp.gc) ∨ (q = 1 ∧ n = Sp.bi) ∨ (q = 2 ∧ n = Sp.sc)) ∧ ∀ w, (Instr.index 76 (.agg #[.string ⟨#[103, 99]⟩, .string ⟨#[98, 105]⟩, .string ⟨#[115, 99]⟩]) (.int .i64 (q : Int))).run Tryz.prog w = .ok (.string ⟨n.toArray⟩) w := by
          rcases (show q = 0 ∨ q = 1 ∨ q = 2 by omega) with rfl | rfl | rfl
          · exact ⟨Sp.gc, .inl ⟨rfl, rfl⟩, j0⟩
          · exact ⟨Sp.bi, .inr (.inl ⟨rfl, rfl⟩), j1⟩
          · exact ⟨Sp.sc, .inr (.inr ⟨rfl, rfl⟩), j2⟩
        have Hn := Lib.hid hn
        have HN := Lib.hid (fun w => number_walk n w)
        clear j0 j1 j2 hn
        go_wp2_with fail
        refine (HF.out n l wr hl hEr).mono ?_
        rintro e w2 ⟨rfl, hb2⟩
        have HB2 := Lib.hid (HBr.out.trans (hb2.mono HBr.out.size))
        have HB3 := Lib.hid (HB.out.trans (hb2.mono HB.out.size))
        unfold strV
        clear hb2
        cases hv : Sp.fnd rs n l with
        | none =>
          simp only [Option.getD_none, Option.isSome_none]
          go_wp2_with fail
          go_roundw
          case rel => exact ⟨q + 1, by omega, by go_num, (fun _ => by rcases Hn.out with ⟨_, rfl⟩ | ⟨h, rfl⟩ | ⟨h, rfl⟩ <;> first | exact hv | exact h1 (by omega)), (fun _ => by rcases Hn.out with ⟨h, rfl⟩ | ⟨h, rfl⟩ | ⟨h, rfl⟩ <;> first | exact hv | exact h2 (by omega) | omega), (fun _ => by rcases Hn.out with ⟨h, rfl⟩ | ⟨h, rfl⟩ | ⟨h, rfl⟩ <;> first | exact hv | omega), HB3⟩
          case measure => simp [intOf]; omega
        | some v =>
          have hfin := HFin.out (Sp.numb n) v 0 w2 (by
            rw [Hres.out]
            unfold Sp.resolveIn
            rcases Hn.out with ⟨_, rfl⟩ | ⟨h, rfl⟩ | ⟨h, rfl⟩
            · rw [hv]
            · rw [h1 (by omega), hv]
            · rw [h1 (by omega), h2 (by omega), hv]) HB2.out
          simp only [Option.getD_some, Option.isSome_some]
          clear hv h1 h2 h3
          go_wp2_with fail
          refine (HN.out w2).mono ?_
          rintro e w4 ⟨rfl, rfl⟩
          go_wp2_with fail
          go_ret3
          exact hfin
      · obtain rfl : q = 3 := by omega
        have hfin := HFin.out 0 [] 50 wr (by
          rw [Hres.out]
          unfold Sp.resolveIn
          rw [h1 (by omega), h2 (by omega), h3 (by omega)]) HBr.out
        clear h1 h2 h3
        go_wp2_with fail
        go_ret3
        exact hfin
end Go.Proofs.YtchkckfadennhaaGreatDoor
