/- strings.IndexAny(s, "=:") of a text of at most 8 bytes, of any bytes. -/
import Derived.Test.YtchkckfadennhaaGreatDoorIdxW
import Derived.Test.YtchkckfadennhaaGreatDoorProg
import Derived.Lib.OthersKept
import Derived.WalkSmall
import Derived.WalkMore
import Derived.Handy
import Derived.Laws.Runes
import Derived.Laws.Strings3
import Derived.Laws.RangeString
import Derived.Laws.RangeAny
import Derived.BigQuiet
import Derived.KernelRfl
import Derived.LoopTactic
import Derived.RegionTactic
import Derived.Deep.QuietTactic
import Derived.WalkLawsBesides
namespace Go.Proofs.YtchkckfadennhaaGreatDoor
open Go.RowKit
set_option linter.unusedVariables false
set_option linter.unusedSimpArgs false

theorem dec_high (s : ByteArray) (pos : Nat) (hp : pos < s.size) (h : 128 ≤ (s.get! pos).toNat) :
    128 ≤ (Utf8.decode s pos).1 ∧ 1 ≤ (Utf8.decode s pos).2 ∧ (∀ j, pos ≤ j → j < pos + (Utf8.decode s pos).2 → j < s.size ∧ 128 ≤ (s.get! j).toNat) ∧ Utf8.valid ((Utf8.decode s pos).1 : Int) = true := by
  have hone : ∀ j, pos ≤ j → j < pos + 1 → j < s.size ∧ 128 ≤ (s.get! j).toNat := fun j h1 h2 => by
    obtain rfl : j = pos := by omega
    exact ⟨hp, h⟩
  have herr : 128 ≤ ((Utf8.runeError, 1) : Nat × Nat).1 ∧ 1 ≤ ((Utf8.runeError, 1) : Nat × Nat).2 ∧ (∀ j, pos ≤ j → j < pos + ((Utf8.runeError, 1) : Nat × Nat).2 → j < s.size ∧ 128 ≤ (s.get! j).toNat) ∧ Utf8.valid ((((Utf8.runeError, 1) : Nat × Nat).1 : Nat) : Int) = true := ⟨by decide, by decide, hone, by decide⟩
  have b0 := (s.get! pos).toNat_lt
  have b1 := (s.get! (pos + 1)).toNat_lt
  have b2 := (s.get! (pos + 2)).toNat_lt
  have b3 := (s.get! (pos + 3)).toNat_lt
  unfold Utf8.decode
  simp only [Nat.add_zero]
  rw [if_neg (by omega)]
  split
  · rename_i h1
    simp only [Bool.and_eq_true, beq_iff_eq, decide_eq_true_eq] at h1
    split
    · rename_i hc
      refine ⟨hc, (by simp), fun j h2 h3 => ?_, ?_⟩
      · rcases (show j = pos ∨ j = pos + 1 by simp only at h3; omega) with rfl | rfl
        · exact ⟨hp, h⟩
        · exact ⟨h1.2.1, by omega⟩
      · rw [validRune_eq]
        unfold validRune
        rw [decide_eq_true_eq]
        left
        simp only
        omega
    · exact herr
  · split
    · rename_i h1
      simp only [Bool.and_eq_true, beq_iff_eq, decide_eq_true_eq] at h1
      split
      · rename_i hc
        simp only [Bool.and_eq_true, decide_eq_true_eq] at hc
        refine ⟨by have := hc.1; simp only; omega, (by simp), fun j h2 h3 => ?_, hc.2⟩
        rcases (show j = pos ∨ j = pos + 1 ∨ j = pos + 2 by simp only at h3; omega) with rfl | rfl | rfl
        · exact ⟨hp, h⟩
        · exact ⟨h1.1.2.1, by omega⟩
        · exact ⟨h1.2.1, by omega⟩
      · exact herr
    · split
      · rename_i h1
        simp only [Bool.and_eq_true, beq_iff_eq, decide_eq_true_eq] at h1
        split
        · rename_i hc
          simp only [Bool.and_eq_true, decide_eq_true_eq] at hc
          refine ⟨by have := hc.1; simp only; omega, (by simp), fun j h2 h3 => ?_, hc.2⟩
          rcases (show j = pos ∨ j = pos + 1 ∨ j = pos + 2 ∨ j = pos + 3 by simp only at h3; omega) with rfl | rfl | rfl | rfl
          · exact ⟨hp, h⟩
          · exact ⟨h1.1.1.2.1, by omega⟩
          · exact ⟨h1.1.2.1, by omega⟩
          · exact ⟨h1.2.1, by omega⟩
        · exact herr
      · exact herr

theorem valid_walk (r : Nat) (hv : Utf8.valid (r : Int) = true) (w : World) : Calls Tryz.prog 98 #[.int .i32 (r : Int)] w fun e w' => e = .returned (.bool true) ∧ w = w' := by
  rw [validRune_eq] at hv
  unfold validRune at hv
  rw [decide_eq_true_eq] at hv
  have d0 : decide ((0 : Int) ≤ (r : Int)) = true := decide_eq_true (by omega)
  by_cases h : (r : Int) < 55296
  · have d1 : decide ((r : Int) < 55296) = true := decide_eq_true h
    go_enter Tryz.func98, Tryz.ntmps98
    go_wp2_with fail
    go_ret
    exact ⟨rfl, rfl⟩
  · have d1 : decide ((r : Int) < 55296) = false := decide_eq_false h
    have d2 : decide ((57343 : Int) < (r : Int)) = true := decide_eq_true (by omega)
    have d3 : decide ((r : Int) ≤ 1114111) = true := decide_eq_true (by omega)
    go_enter Tryz.func98, Tryz.ntmps98
    go_wp2_with fail
    go_ret
    exact ⟨rfl, rfl⟩
theorem byte_none (z : Int) (w : World) : Calls Tryz.prog 97 #[.string ⟨#[]⟩, .int .u8 z] w fun e w' => e = .returned (.int .i64 (-1)) ∧ w' = w :=
  Any.strings_IndexByte { Tryz.lays153 with } ⟨#[]⟩ z w
theorem rune_ascii (r : Nat) (h : r < 128) (w : World) : Calls Tryz.prog 71 #[.string ⟨#[61, 58]⟩, .int .i32 (r : Int)] w fun e w' => e = .returned (.int .i64 (Lib.indexByte [61, 58] ((r : Int).toNat.toUInt8))) ∧ w' = w :=
  Any.strings_IndexRune_ascii { Tryz.lays153 with } ⟨#[61, 58]⟩ (r : Int) w (by omega) (by omega)
set_option maxRecDepth 100000 in
theorem rune_walk (r : Nat) (h128 : 128 ≤ r) (hv : Utf8.valid (r : Int) = true) (w : World) : Calls Tryz.prog 71 #[.string ⟨#[61, 58]⟩, .int .i32 (r : Int)] w fun e w' => e = .returned (.int .i64 (-1)) ∧ Below w.heap.size w w' := by
  have e0 : decide ((r : Int) < 128) = false := decide_eq_false (by omega)
  have HV := Lib.hid (fun w => valid_walk r hv w)
  by_cases h5 : r = 65533
  · subst h5
    clear e0
    go_enter Tryz.func71, Tryz.ntmps71
    go_wp2_with fail
    go_loopw [5] (fun _ wr => ∃ pos : Nat, pos ≤ 2 ∧ wr.heap[w.heap.size]? = some (.stringIter ⟨#[61, 58]⟩ pos) ∧ Below w.heap.size w wr) (fun _ wr => 2 - wr.iterPos w.heap.size)
    case atStart => exact ⟨0, by omega, World.iter_heap w _ 0, (Below.refl _ _).alloc (Nat.le_refl _) _⟩
    case round =>
      obtain ⟨pos, hpos, hit, hB⟩ := hrel
      have hpos0 := iterPos_of hit
      by_cases hp : pos < 2
      · obtain ⟨c, hc, hd⟩ : ∃ c : Nat, c < 128 ∧ Utf8.decode ⟨#[61, 58]⟩ pos = (c, 1) := by
          rcases (show pos = 0 ∨ pos = 1 by omega) with rfl | rfl
          · exact ⟨61, by decide, rfl⟩
          · exact ⟨58, by decide, rfl⟩
        have hnx : ∀ ty, (Instr.next (.pointer (some ⟨w.heap.size, 0, none⟩)) true ty).run Tryz.prog wr = _ := fun ty => Lib.run_next_any_at wr w.heap.size ⟨#[61, 58]⟩ pos ty hit hp
        have hit2 := Lib.iterAt_heap wr w.heap.size ⟨#[61, 58]⟩ pos (pos + 1) hit
        have hB2 := Lib.below_iterAt hB (k := w.heap.size) (Nat.le_refl _) ⟨#[61, 58]⟩ (pos + 1)
        rw [hd] at hnx
        simp only at hnx
        generalize wr.iterAt w.heap.size ⟨#[61, 58]⟩ (pos + 1) = W1 at *
        have e1 : ((c : Int) == 65533) = false := beq_eq_false_iff_ne.2 (by omega)
        clear hd hit hB
        go_wp2_with fail
        go_roundw
        case rel => exact ⟨pos + 1, by omega, hit2, hB2⟩
        case measure => rw [iterPos_of hit2, hpos0]; omega
      · obtain rfl : pos = 2 := by omega
        have hnx : ∀ ty, (Instr.next (.pointer (some ⟨w.heap.size, 0, none⟩)) true ty).run Tryz.prog wr = _ := fun ty => Lib.run_next_end_at wr w.heap.size ⟨#[61, 58]⟩ 2 ty hit (by decide)
        go_wp2_with fail
        go_ret
        exact ⟨rfl, hB⟩
  · have e1 : ((r : Int) == 65533) = false := beq_eq_false_iff_ne.2 (by omega)
    obtain ⟨s2, s4, sl⟩ := encode_facts (r : Int) hv (by omega)
    obtain ⟨S, hS⟩ : ∃ S, S = Utf8.encode (r : Int) := ⟨_, rfl⟩
    rw [← hS] at s2 s4 sl
    have hS2 := fun w => run_convert_int_string (P := Tryz.prog) w 21 9 .i32 (r : Int) (by kernel_rfl) Tryz.underlying9
    rw [← hS] at hS2
    clear hS
    rcases (show S.size = 2 ∨ S.size = 3 ∨ S.size = 4 by omega) with hsz | hsz | hsz
    · have hz := sl (by omega)
      obtain ⟨z, hzz⟩ : ∃ z : UInt8, z = S[S.size - 1]'(by omega) := ⟨_, rfl⟩
      rw [← hzz] at hz
      have hS1 : ∀ w, (Instr.index 9 (.string S) (.int .i64 1)).run Tryz.prog w = .ok (.int .u8 (z.toNat : Int)) w := fun w => by
        rw [run_index_string w 9 _ _ _ Tryz.underlying9, dif_pos (by omega)]
        rw [hzz]
        simp [hsz]
      have hI1 : ∀ w, (Instr.index 9 (.string ⟨#[61, 58]⟩) (.int .i64 1)).run Tryz.prog w = .ok (.int .u8 58) w := fun w => by kernel_rfl
      have hI2 : ∀ w, (Instr.slice 9 (.string ⟨#[61, 58]⟩) (some (.int .i64 2)) none none).run Tryz.prog w = .ok (.string ⟨#[]⟩) w := fun w => by kernel_rfl
      have d1 : ((58 : Int) != (z.toNat : Int)) = true := by rw [bne, beq_eq_false_iff_ne.2 (by omega)]; rfl
      have HIB := Lib.hid (fun w => byte_none (z.toNat : Int) w)
      clear hzz sl
      go_enter Tryz.func71, Tryz.ntmps71
      go_wp2_with (go_at_call 98; refine (HV.out _).mono ?_; rintro e w' ⟨rfl, rfl⟩)
      go_step3
      go_wp2_with fail
      go_loopw [9] (fun i wr => i = .int .i64 1 ∧ wr = w) (fun _ _ => 0)
      case atStart => exact ⟨rfl, rfl⟩
      case round =>
        obtain ⟨rfl, rfl⟩ := hrel
        go_wp2_with fail
        go_step3
        go_wp2_with fail
        go_quiet (fail)
        simp only [Exit.then]
        go_wp2_with fail
        have hBq : Below wr.heap.size wr (wr.drewN nq) := below_drewN _ _
        generalize wr.drewN nq = Wq at *
        go_quiet ((go_at_call 97; refine Calls.quiet_of_same (HIB.out _)))
        simp only [Exit.then]
        go_wp2_with fail
        repeat (first | rw [Exit.noGoto_ret] | change Exit.noGoto _ Exit.ret _ _)
        go_ret
        exact ⟨rfl, hBq.trans ((below_drewN Wq _).mono hBq.size)⟩
    · go_enter Tryz.func71, Tryz.ntmps71
      go_wp2_with (go_at_call 98; refine (HV.out _).mono ?_; rintro e w' ⟨rfl, rfl⟩)
      go_step3
      go_wp2_with fail
      go_loopw [9] (fun i wr => i = .int .i64 2 ∧ wr = w) (fun _ _ => 0)
      case atStart => exact ⟨rfl, rfl⟩
      case round =>
        obtain ⟨rfl, rfl⟩ := hrel
        go_wp2_with fail
        rw [Exit.noGoto_ret]
        go_ret
        exact ⟨rfl, Below.refl _ _⟩
    · go_enter Tryz.func71, Tryz.ntmps71
      go_wp2_with (go_at_call 98; refine (HV.out _).mono ?_; rintro e w' ⟨rfl, rfl⟩)
      go_step3
      go_wp2_with fail
      go_loopw [9] (fun i wr => i = .int .i64 3 ∧ wr = w) (fun _ _ => 0)
      case atStart => exact ⟨rfl, rfl⟩
      case round =>
        obtain ⟨rfl, rfl⟩ := hrel
        go_wp2_with fail
        rw [Exit.noGoto_ret]
        go_ret
        exact ⟨rfl, Below.refl _ _⟩

/-- No splitter stands ahead of k. -/
theorem findIdx_at {l : Sp.Str} {k : Nat} (hk : k < l.length) (h0 : ∀ j (hj : j < k), Sp.splitter (l[j]'(by omega)) = false) (h1 : Sp.splitter l[k] = true) : l.findIdx? Sp.splitter = some k := by
  rw [List.findIdx?_eq_some_iff_getElem]
  exact ⟨hk, h1, fun j hj => by rw [h0 j hj]; decide⟩
theorem findIdx_no {l : Sp.Str} (h0 : ∀ j (hj : j < l.length), Sp.splitter (l[j]'hj) = false) : l.findIdx? Sp.splitter = none := by
  rw [List.findIdx?_eq_none_iff]
  intro x hx
  obtain ⟨j, hj, rfl⟩ := List.mem_iff_getElem.1 hx
  exact h0 j hj
theorem get_bang (l : Sp.Str) (j : Nat) (hj : j < l.length) : (ByteArray.mk l.toArray).get! j = l[j] := by
  simp [ByteArray.get!, hj]
theorem split_high {b : UInt8} (h : 128 ≤ b.toNat) : Sp.splitter b = false := by
  unfold Sp.splitter
  rw [Bool.or_eq_false_iff]
  constructor <;> (rw [beq_eq_false_iff_ne]; rintro rfl; revert h; decide)
theorem rune_said (r : Nat) (h : r < 128) : decide ((0 : Int) ≤ Lib.indexByte [61, 58] ((r : Int).toNat.toUInt8)) = Sp.splitter r.toUInt8 := by
  have : ∀ x : Fin 128, decide ((0 : Int) ≤ Lib.indexByte [61, 58] ((x.val : Int).toNat.toUInt8)) = Sp.splitter x.val.toUInt8 := by decide
  exact this ⟨r, h⟩
def idxV (o : Option Nat) : Int := match o with | some i => i | none => -1
def IdxSaid (l : Sp.Str) (w : World) (e : Ending) (w' : World) : Prop := e = .returned (.int .i64 (idxV (l.findIdx? Sp.splitter))) ∧ Below w.heap.size w w'
set_option maxRecDepth 100000 in
theorem idx_short0 (l : Sp.Str) (h8 : l.length ≤ 8) (w : World) : Calls Tryz.prog 45 #[.string ⟨l.toArray⟩, .string ⟨#[61, 58]⟩] w (IdxSaid l w) := by
  have hsz : (ByteArray.mk l.toArray).size = l.length := List.size_toArray
  have d8 : decide ((8 : Int) < (l.length : Int)) = false := decide_eq_false (by omega)
  have HU := Lib.hid (fun w => (Any.strings_shouldUseASCIISet { Tryz.lays153 with } (l.length : Int) w : Calls Tryz.prog 72 #[.int .i64 (l.length : Int)] w _))
  have HRa := Lib.hid (fun r h w => rune_ascii r h w)
  have HRh := Lib.hid (fun r h h' w => rune_walk r h h' w)
  have Hat := Lib.hid (fun (k : Nat) (hk : k < l.length) (h0 : ∀ j (hj : j < k), Sp.splitter (l[j]'(by omega)) = false) (h1 : Sp.splitter l[k] = true) => findIdx_at hk h0 h1)
  have Hno := Lib.hid (fun (h0 : ∀ j (hj : j < l.length), Sp.splitter (l[j]'hj) = false) => findIdx_no h0)
  obtain ⟨s, hs⟩ : ∃ s, s = ByteArray.mk l.toArray := ⟨_, rfl⟩
  rw [← hs] at hsz ⊢
  have hget : ∀ j (hj : j < l.length), s.get! j = l[j] := fun j hj => by rw [hs]; exact get_bang l j hj
  have Hget := Lib.hid hget
  have HI := Lib.hid (show ∀ (o : Option Nat) w', o = l.findIdx? Sp.splitter → Below w.heap.size w w' → IdxSaid l w (Ending.returned (.int .i64 (idxV o))) w' from fun o w' ho hb => ⟨by rw [ho], hb⟩)
  have Hdec := Lib.hid (fun (pos : Nat) (hp : pos < l.length) (hh : 128 ≤ l[pos].toNat) => dec_high s pos (by rw [hsz]; exact hp) (by rw [hget pos hp]; exact hh))
  have Hasc := Lib.hid (fun (pos : Nat) (hp : pos < l.length) (hh : l[pos].toNat < 128) => (show Utf8.decode s pos = (l[pos].toNat, 1) by
    have hp' : pos < s.size := by rw [hsz]; exact hp
    have e : s[pos]'hp' = l[pos] := by
      have := hget pos hp
      rw [← this]
      simp [ByteArray.get!, getElem!_pos, hp']
      rfl
    rw [decode_ascii s pos hp' (by rw [e]; exact hh), e]))
  clear hget hs
  go_enter Tryz.func45, Tryz.ntmps45
  go_wp2_with fail
  refine (HU.out w).mono ?_
  rintro e w0 ⟨rfl, rfl⟩
  go_wp2_with fail
  go_loopw [9] (fun _ wr => ∃ pos : Nat, pos ≤ l.length ∧ wr.heap[w0.heap.size]? = some (.stringIter s pos) ∧ Hid (∀ j (hj : j < pos) (hl : j < l.length), Sp.splitter (l[j]'hl) = false) ∧ Below w0.heap.size w0 wr) (fun _ wr => l.length - wr.iterPos w0.heap.size)
  case atStart => exact ⟨0, by omega, World.iter_heap w0 s 0, (fun j hj => absurd hj (by omega)), (Below.refl _ _).alloc (Nat.le_refl _) _⟩
  case round =>
    obtain ⟨pos, hpos, hit, HZ, hB⟩ := hrel
    have hpos0 := iterPos_of hit
    by_cases hp : pos < l.length
    · have hnx : ∀ ty, (Instr.next (.pointer (some ⟨w0.heap.size, 0, none⟩)) true ty).run Tryz.prog wr = _ := fun ty => Lib.run_next_any_at wr w0.heap.size s pos ty hit (by rw [hsz]; exact hp)
      by_cases hh : l[pos].toNat < 128
      · have hd := Hasc.out pos hp hh
        have hit2 := Lib.iterAt_heap wr w0.heap.size s pos (pos + 1) hit
        have hB2 := Lib.below_iterAt hB (k := w0.heap.size) (Nat.le_refl _) s (pos + 1)
        rw [hd] at hnx
        simp only at hnx
        have hsd := rune_said l[pos].toNat hh
        have HR := Lib.hid (HRa.out l[pos].toNat hh)
        rw [show l[pos].toNat.toUInt8 = l[pos] by simp] at hsd
        have Hsp := Lib.hid (show ∀ b, b = Sp.splitter l[pos] → b = false → ∀ j (hj : j < pos + 1) (hl : j < l.length), Sp.splitter (l[j]'hl) = false from fun b hb h0 j hj hl => by
          by_cases hjp : j < pos
          · exact HZ.out j hjp hl
          · obtain rfl : j = pos := by omega
            rw [← hb, h0])
        have Hhit := Lib.hid (show ∀ b, b = Sp.splitter l[pos] → b = true → some pos = l.findIdx? Sp.splitter from fun b hb h0 => (Hat.out pos hp (fun j hj => HZ.out j hj (by omega)) (by rw [← hb, h0])).symm)
        generalize wr.iterAt w0.heap.size s (pos + 1) = W1 at *
        generalize hbb : Sp.splitter l[pos] = bb at *
        generalize Lib.indexByte [61, 58] ((l[pos].toNat : Int).toNat.toUInt8) = ib at *
        generalize l[pos].toNat = cc at *
        clear hd hit hB hbb
        cases bb with
        | false =>
          have HZ2 := Lib.hid (Hsp.out false rfl rfl)
          clear Hsp Hhit
          go_wp2_with fail
          refine (HR.out W1).mono ?_
          rintro e w2 ⟨rfl, rfl⟩
          go_wp2_with fail
          go_roundw
          case rel => exact ⟨pos + 1, by omega, hit2, HZ2, hB2⟩
          case measure => rw [iterPos_of hit2, hpos0]; omega
        | true =>
          have hfin := HI.out (some pos) W1 (Hhit.out true rfl rfl) hB2
          clear Hsp Hhit
          go_wp2_with fail
          refine (HR.out W1).mono ?_
          rintro e w2 ⟨rfl, rfl⟩
          go_wp2_with fail
          first | (go_ret; exact hfin) | exact hfin
      · obtain ⟨h1, h2, h3, h4⟩ := Hdec.out pos hp (by omega)
        obtain ⟨r, hr⟩ : ∃ r, r = (Utf8.decode s pos).1 := ⟨_, rfl⟩
        obtain ⟨n, hn⟩ : ∃ n, n = (Utf8.decode s pos).2 := ⟨_, rfl⟩
        rw [← hr] at h1 h4 hnx
        rw [← hn] at h2 h3 hnx
        have hit2 := Lib.iterAt_heap wr w0.heap.size s pos (pos + n) hit
        have hB2 := Lib.below_iterAt hB (k := w0.heap.size) (Nat.le_refl _) s (pos + n)
        have hle : pos + n ≤ l.length := by
          have := (h3 (pos + n - 1) (by omega) (by omega)).1
          omega
        have HZ2 := Lib.hid (show ∀ j (hj : j < pos + n) (hl : j < l.length), Sp.splitter (l[j]'hl) = false from fun j hj hl => by
          by_cases hjp : j < pos
          · exact HZ.out j hjp hl
          · have := (h3 j (by omega) hj).2
            rw [Hget.out j hl] at this
            exact split_high this)
        have HR := Lib.hid (HRh.out r h1 h4)
        generalize wr.iterAt w0.heap.size s (pos + n) = W1 at *
        clear hr hn hit hB h3
        go_wp2_with fail
        refine (HR.out W1).mono ?_
        rintro e w2 ⟨rfl, hb2⟩
        have hit3 : w2.heap[w0.heap.size]? = some (.stringIter s (pos + n)) := (hb2.block _ (lt_of_block hit2)).trans hit2
        have hB3 := hB2.trans (hb2.mono hB2.size)
        clear hb2
        go_wp2_with fail
        go_roundw
        case rel => exact ⟨pos + n, by omega, hit3, HZ2, hB3⟩
        case measure => rw [iterPos_of hit3, hpos0]; omega
    · obtain rfl : pos = l.length := by omega
      have hnx : ∀ ty, (Instr.next (.pointer (some ⟨w0.heap.size, 0, none⟩)) true ty).run Tryz.prog wr = _ := fun ty => Lib.run_next_end_at wr w0.heap.size s l.length ty hit (by rw [hsz]; omega)
      have hfin := HI.out none wr (Hno.out fun j hj => HZ.out j hj hj).symm hB
      go_wp2_with fail
      first | (go_ret; exact hfin) | exact hfin
theorem idx_short (l : Sp.Str) (h8 : l.length ≤ 8) : IdxOk l := fun w => (idx_short0 l h8 w).mono fun e w' ⟨he, hb⟩ => ⟨by rw [he]; unfold idxV; cases l.findIdx? Sp.splitter <;> rfl, hb⟩
/-- strings.IndexAny(s, "=:") of any text. -/
theorem idx_ok (l : Sp.Str) (hl : l.length ≤ 2000000) : IdxOk l := by
  by_cases h : 8 < l.length
  · exact idx_long l h hl
  · exact idx_short l (by omega)
end Go.Proofs.YtchkckfadennhaaGreatDoor
